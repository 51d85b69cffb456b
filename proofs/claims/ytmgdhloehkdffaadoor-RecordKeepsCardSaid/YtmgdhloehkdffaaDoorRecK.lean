/- The states that wakes and the laws go through. -/
import Derived.Test.YtmgdhloehkdffaaDoorRecL
import Derived.Test.YtmgdhloehkdffaaDoorFrK
namespace Go.Proofs.YtmgdhloehkdffaaDoor.Rec
open Go.RowKit Go.Proofs.YtmgdhloehkdffaaDoor.Var Go.Proofs.YtmgdhloehkdffaaDoor.Crc Go.Proofs.YtmgdhloehkdffaaDoor.Fr Go.Proofs.YtmgdhloehkdffaaDoor.DiskW

/-- A disk made since w. -/
def At (w : World) (D : Nat) (d : DS) (w' : World) : Prop := w.heap.size ≤ D ∧ Upd [] w w' ∧ ∃ bv, DiskAt w' D w.heap.size bv d
/-- A log of it. -/
def LogAt (D L : Nat) (w : World) : Prop := w.heap[L]? = some (.cells #[.pointer (some ⟨D, 0, none⟩)] 78 (0, 0)) ∧ L ≠ D ∧ ¬ OwnAt w D L
theorem LogAt.near {D L : Nat} {w w' : World} (h : LogAt D L w) (hn : Near D w w') : LogAt D L w' := by
  obtain ⟨h1, h2, h3⟩ := h
  refine ⟨by rw [hn.block (blk_lt h1) h2 h3]; exact h1, h2, fun h4 => ?_⟩
  rcases hn.own L h4 with h5 | h5
  · exact h3 h5
  · have := blk_lt h1; omega
theorem At.near {w w1 w2 : World} {D : Nat} {d d' : DS} {bv' : Value} (h : At w D d w1) (hn : Near D w1 w2) (h2 : DiskAt w2 D w.heap.size bv' d') : At w D d' w2 := by
  obtain ⟨hD, hu, bv, h1⟩ := h
  obtain ⟨S, hu2, hS⟩ := hn.upd
  refine ⟨hD, hu.trans_new hu2 (fun k hk => .inr ?_), bv', h2⟩
  rcases hS k hk with rfl | h3
  · exact hD
  · exact (owns_lt h1.row k (h1.ownAt.1 h3)).1
/-- What an act of it answers. -/
def Acted (w w1 : World) (D : Nat) (r : DS × Int) (e : Ending) (w2 : World) : Prop := e = .returned (.int .i64 r.2) ∧ At w D r.1 w2 ∧ Near D w1 w2
theorem At.done {w w1 w2 : World} {D : Nat} {d : DS} {r : DS × Int} {e : Ending} (h : At w D d w1) (hd : Done w1 D w.heap.size r e w2) : Acted w w1 D r e w2 := by
  obtain ⟨v, rfl, rfl, bv', h1, -, h2⟩ := hd
  exact ⟨rfl, h.near h2 h1, h2⟩
theorem At.quiet {w w1 w2 : World} {D : Nat} {d : DS} (h : At w D d w1) (hu : Upd [] w1 w2) : At w D d w2 ∧ Near D w1 w2 := by
  obtain ⟨hD, hu1, bv, h1⟩ := h
  exact ⟨⟨hD, hu1.trans hu, bv, h1.upd hu (by simp) (by simp)⟩, Near.of_upd h1 hu⟩
def _root_.Go.Proofs.YtmgdhloehkdffaaDoor.DS.opened (d : DS) : DS := { d with byt := d.byt.take (d.syn + (all (d.byt.drop d.syn)).2.1), syn := d.syn + (all (d.byt.drop d.syn)).2.1 }
/-- What Open answers of it. -/
def Opened (w w1 : World) (D : Nat) (d : DS) (e : Ending) (w2 : World) : Prop :=
  (d.dead = true ∧ e = .returned (.tuple #[.pointer none, .slice none 0 0, .int .i64 20]) ∧ At w D d w2 ∧ Near D w1 w2) ∨
  (d.dead = false ∧ (all (d.byt.take d.syn)).2.2 ≠ 0 ∧ e = .returned (.tuple #[.pointer none, .slice none 0 0, .int .i64 22]) ∧ At w D d w2 ∧ Near D w1 w2) ∨
  (d.dead = false ∧ (all (d.byt.take d.syn)).2.2 = 0 ∧ ∃ L ao cap vs, e = .returned (.tuple #[.pointer (some ⟨L, 0, none⟩), .slice ao ((all (d.byt.take d.syn)).1 ++ (all (d.byt.drop d.syn)).1).length cap, .int .i64 0]) ∧ LogAt D L w2 ∧
    Lie w2 D w1.heap.size (.slice ao ((all (d.byt.take d.syn)).1 ++ (all (d.byt.drop d.syn)).1).length cap) ((all (d.byt.take d.syn)).1 ++ (all (d.byt.drop d.syn)).1) vs ∧ At w D d.opened w2 ∧ Near D w1 w2)
theorem open_at {w w1 : World} {D : Nat} {d : DS} (hst : TabAt w) (h : At w D d w1) (hok : d.Ok 1000000000000) : Calls Tryd.prog 17 #[.pointer (some ⟨D, 0, none⟩)] w1 (Opened w w1 D d) := by
  have hA := h
  obtain ⟨hD, hu, bv, h1⟩ := h
  have hdl := blk_lt h1.hD
  cases hd : d.dead with
  | true =>
    refine (open_dead w1 h1 hd).mono ?_
    rintro e w2 ⟨rfl, hu2⟩
    have := hA.quiet hu2
    exact .inl ⟨hd, rfl, this.1, this.2⟩
  | false =>
    refine (open_on w1 h1 hD hu.size hok hd (hst.upd hu (by simp))).mono ?_
    rintro e w2 (⟨ha, rfl, hu2⟩ | ⟨ha, L, v, vs, bv', rfl, hL, hLs, hbo, hlie, h2, hn⟩)
    · have := hA.quiet hu2
      exact .inr (.inl ⟨hd, ha, rfl, this.1, this.2⟩)
    · obtain ⟨ao, cap, rfl, -, -, -⟩ := owns_slice hlie.rows.row
      exact .inr (.inr ⟨hd, ha, L, ao, cap, vs, rfl, ⟨hL, by omega, fun h => hbo (h2.ownAt.1 h)⟩, hlie, hA.near hn h2, hn⟩)
theorem Opened.dead {w w1 w2 : World} {D : Nat} {d : DS} {e : Ending} (h : Opened w w1 D d e w2) (hd : d.dead = true) : e = .returned (.tuple #[.pointer none, .slice none 0 0, .int .i64 20]) ∧ At w D d w2 ∧ Near D w1 w2 := by
  rcases h with h | h | h
  · exact h.2
  · rw [h.1] at hd; cases hd
  · rw [h.1] at hd; cases hd
theorem Opened.bad {w w1 w2 : World} {D : Nat} {d : DS} {e : Ending} (h : Opened w w1 D d e w2) (hd : d.dead = false) (ha : (all (d.byt.take d.syn)).2.2 ≠ 0) : e = .returned (.tuple #[.pointer none, .slice none 0 0, .int .i64 22]) ∧ At w D d w2 ∧ Near D w1 w2 := by
  rcases h with h | h | h
  · rw [h.1] at hd; cases hd
  · exact h.2.2
  · exact absurd h.2.1 ha
theorem Opened.ok {w w1 w2 : World} {D n1 n2 : Nat} {e2 : Int} {d : DS} {e : Ending} {l1 l2 : List (List UInt8)} (h : Opened w w1 D d e w2) (hd : d.dead = false) (h1 : all (d.byt.take d.syn) = (l1, n1, 0)) (h2 : all (d.byt.drop d.syn) = (l2, n2, e2)) :
    ∃ L ao cap vs, e = .returned (.tuple #[.pointer (some ⟨L, 0, none⟩), .slice ao (l1 ++ l2).length cap, .int .i64 0]) ∧ LogAt D L w2 ∧ Lie w2 D w1.heap.size (.slice ao (l1 ++ l2).length cap) (l1 ++ l2) vs ∧
      At w D { d with byt := d.byt.take (d.syn + n2), syn := d.syn + n2 } w2 ∧ Near D w1 w2 := by
  rcases h with h | h | h
  · rw [h.1] at hd; cases hd
  · rw [h1] at h; exact absurd rfl h.2.1
  · unfold DS.opened at h
    rw [h1, h2] at h
    exact h.2.2
theorem append_at {w w1 : World} {D : Nat} {d : DS} {bo : Option Addr} {bl bc : Nat} {bs : List UInt8} (h : At w D d w1) (hs : SrcAt w1 bo bl bc (bs.map u8v) 1) (hbc : bl ≤ bc) (hB : bl ≤ 1000000000000) (hok : d.Ok 1000000000000) :
    Calls Tryd.prog 46 #[.pointer (some ⟨D, 0, none⟩), .slice bo bl bc] w1 (Acted w w1 D (d.append bs)) := by
  obtain ⟨hD, hu, bv, h1⟩ := id h
  exact (append_any w1 h1 hD hu.size hs hbc hB hok).mono fun e w2 hd => h.done hd
theorem crash_at {w w1 : World} {D : Nat} {d : DS} {n : Int} (h : At w D d w1) (hok : d.Ok 1000000000000) : Calls Tryd.prog 21 #[.pointer (some ⟨D, 0, none⟩), .int .i64 n] w1 (Acted w w1 D (d.crash n)) := by
  obtain ⟨hD, hu, bv, h1⟩ := id h
  exact (crash_any w1 h1 hok hD hu.size).mono fun e w2 hd => h.done hd
theorem fuse_at {w w1 : World} {D : Nat} {d : DS} {n : Int} (h : At w D d w1) : Calls Tryd.prog 32 #[.pointer (some ⟨D, 0, none⟩), .int .i64 n] w1 (Acted w w1 D (d.setFuse n)) := by
  obtain ⟨hD, hu, bv, h1⟩ := id h
  exact (fuse_any w1 h1 hD hu.size).mono fun e w2 hd => h.done hd
theorem restart_at {w w1 : World} {D : Nat} {d : DS} (h : At w D d w1) : Calls Tryd.prog 24 #[.pointer (some ⟨D, 0, none⟩)] w1 (Acted w w1 D d.restart) := by
  obtain ⟨hD, hu, bv, h1⟩ := id h
  exact (restart_any w1 h1 hD hu.size).mono fun e w2 hd => h.done hd
theorem turn_at {w w1 : World} {D : Nat} {d : DS} {n : Int} (h : At w D d w1) (hl : d.byt.length ≤ 1000000000000) (hlo : -9223372036854775808 ≤ n) (hhi : n ≤ 9223372036854775807) : Calls Tryd.prog 25 #[.pointer (some ⟨D, 0, none⟩), .int .i64 n] w1 (Acted w w1 D (d.turn n)) := by
  obtain ⟨hD, hu, bv, h1⟩ := id h
  exact (turn_any w1 h1 hD hu.size hl hlo hhi).mono fun e w2 hd => h.done hd
theorem lsync_at {w w1 : World} {D L : Nat} {d : DS} (h : At w D d w1) (hL : LogAt D L w1) : Calls Tryd.prog 19 #[.pointer (some ⟨L, 0, none⟩)] w1 (Acted w w1 D d.sync) := by
  obtain ⟨hD, hu, bv, h1⟩ := id h
  exact (lsync_any w1 h1 hD hu.size hL.1).mono fun e w2 hd => h.done hd
theorem lappend_at {w w1 : World} {D L : Nat} {d : DS} {bo : Option Addr} {bl bc : Nat} {bs : List UInt8} (hst : TabAt w) (h : At w D d w1) (hL : LogAt D L w1) (hs : SrcAt w1 bo bl bc (bs.map u8v) 1) (hok : d.Ok 1000000000000) (hl : bl ≤ 65536) :
    Calls Tryd.prog 20 #[.pointer (some ⟨L, 0, none⟩), .slice bo bl bc] w1 (Acted w w1 D (d.log bs)) := by
  obtain ⟨hD, hu, bv, h1⟩ := id h
  exact (lappend_any w1 h1 hD hu.size hL.1 (hst.upd hu (by simp)) hs hok hl).mono fun e w2 hd => h.done hd
theorem new_at (w : World) : Calls Tryd.prog 16 #[] w fun e w1 => e = .returned (.pointer (some ⟨w.heap.size, 0, none⟩)) ∧ At w w.heap.size ⟨[], 0, false, -1⟩ w1 := by
  refine (DiskW.new_any w).mono ?_
  rintro e w1 ⟨v, rfl, rfl, h1, hu⟩
  exact ⟨rfl, Nat.le_refl _, hu, _, h1⟩

theorem all_a : all [1, 48, 67, 208, 193, 97] = ([[97]], 6, 0) := by
  have ht : take [1, 48, 67, 208, 193, 97] = ([97], 6, 0) := by
    have := take_fr (bs := [97]) (by simp) (by simp) []
    rw [FrL.fr_a] at this
    exact this
  rw [all_ok (by simp) (by rw [ht]), ht]
  rfl
theorem all_51 : all [5, 1] = ([], 0, 10) := by
  have h := rd_uv (n := 5) (by decide) [1]
  rw [uv_last (by decide)] at h
  have ht : take [5, 1] = ([], 0, 10) := by
    unfold take
    rw [show ([5, 1] : List UInt8) = [UInt8.ofNat 5] ++ [1] from rfl, h]
    simp
  rw [all_err (by simp) (by rw [ht]; simp), ht]
theorem all_bad : (all [1, 48, 67, 208, 193, 99]).2.2 ≠ 0 := by
  have h := rd_uv (n := 1) (by decide) [48, 67, 208, 193, 99]
  rw [uv_last (by decide)] at h
  have hs : Crc.sum [99] ≠ 3251651376 := by decide +kernel
  have ht : take [1, 48, 67, 208, 193, 99] = ([], 0, 12) := by
    unfold take
    rw [show ([1, 48, 67, 208, 193, 99] : List UInt8) = [UInt8.ofNat 1] ++ [48, 67, 208, 193, 99] from rfl, h]
    simp only [List.length_cons, List.length_nil]
    have hq : le4 (Crc.sum [99]) ≠ [48, 67, 208, 193] := by decide +kernel
    simp [hq]
  rw [all_err (by simp) (by rw [ht]; simp), ht]
  simp
theorem bytes_at {w w1 : World} {D : Nat} {d : DS} (h : At w D d w1) (hl : d.byt.length ≤ 1000000000000) : Calls Tryd.prog 22 #[.pointer (some ⟨D, 0, none⟩)] w1 fun e w2 => (∃ ao cap, e = .returned (.slice ao d.byt.length cap) ∧ w2.ownsRow w1.heap.size 5 1 (.slice ao d.byt.length cap) d.byt.length (d.byt.map u8v)) ∧ Upd [] w1 w2 := by
  obtain ⟨hD, hu, bv, h1⟩ := id h
  refine (bytes_any w1 h1 hu.size hl).mono ?_
  rintro e w2 ⟨v, rfl, ho, hu2⟩
  obtain ⟨ao, cap, rfl, -, -, -⟩ := owns_slice ho
  exact ⟨⟨ao, cap, rfl, ho⟩, hu2⟩
end Go.Proofs.YtmgdhloehkdffaaDoor.Rec
