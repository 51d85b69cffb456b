/- The disk's acts, called from outside, second part. -/
import Derived.Test.YtmgdhloehkdffaaDoorDiskW5
import Derived.Deep.RegionHeld
namespace Go.Proofs.YtmgdhloehkdffaaDoor.DiskW
open Go.RowKit

theorem src_allocs {w : World} {bo : Option Addr} {bl bc : Nat} {xs : List Value} (h : SrcAt w bo bl bc xs 1) (o : Obj) : SrcAt (w.alloc o) bo bl bc xs 1 :=
  ⟨h.len, h.one, h.nil, fun a e j u hj => by
    have h1 := h.cells a e j u hj
    rw [World.cell?_alloc_some w _ o (by rw [h1]; rfl)]
    exact h1⟩
theorem blk_new1 {w : World} {b : Nat} (h : b = w.heap.size) (o : Obj) : (w.alloc o).heap[b]? = some o := by subst h; exact blk_new w o
theorem src_of_owns {w : World} {base n : Nat} {e : TypeId} {ao : Option Addr} {cap : Nat} {xs : List Value} (h : w.ownsRow base e 1 (.slice ao n cap) n xs) (h1 : ∀ u ∈ xs, u.oneCell' = true) : SrcAt w ao n cap xs 1 := by
  obtain ⟨ao', cap', e1, -, -, h3⟩ := owns_slice h
  cases e1
  refine ⟨h.1, h1, fun e => ?_, fun a e j u hj => ?_⟩
  · rcases h.2 with ⟨e2, e3⟩ | ⟨g, c, cur, e2, -⟩
    · cases e2; exact ⟨rfl, rfl⟩
    · rw [e] at e2; cases e2
  · obtain ⟨g, e4, -, -, e5⟩ := h3 j u hj
    rw [e] at e4
    cases e4
    by_cases h0 : j = 0
    · subst h0; simpa [Addr.add] using e5
    · simpa [Addr.add, h0] using e5
set_option maxHeartbeats 400000 in
theorem fuse_any {D base : Nat} {bv : Value} {d : DS} {n : Int} (w : World) (h : DiskAt w D base bv d) (hD : base ≤ D) (hb : base ≤ w.heap.size) :
    Calls Tryd.prog 32 #[.pointer (some ⟨D, 0, none⟩), .int .i64 n] w fun e w' => Done w D base (d.setFuse n) e w' := by
  have H := hide h
  clear h
  go_enter Tryd.func32, Tryd.ntmps32
  go_wp2_with fail
  refine (powered_done _ ((H.out.allocs _).allocs _) (fun _ _ => rfl) (fun hd => by simp [DS.setFuse, hd]) (fun hd => ?_) : Calls _ _ _ _ (fun e w' => Done _ D base (d.setFuse n) e w')).mono ?_
  · refine (fuse1 _ ((H.out.allocs _).allocs _) (cell_new1 (by simp)) (by simp)).mono ?_
    rintro e w' ⟨v, rfl, rfl, h1, h2⟩
    simp only [DS.setFuse, hd, if_false, Bool.false_eq_true]
    rw [hd] at h1
    exact Done.intro ((H.out.allocs _).allocs _) hD (by simp; omega) h1 h2 (by simp) (fun _ h => .inl h)
  · rintro e w' ⟨v, rfl, rfl, h1⟩
    have H1 := hide h1
    clear h1
    go_wp2_with fail
    go_ret
    exact Done.pre ⟨_, rfl, rfl, H1.out⟩ (((Upd.refl [] _).alloc _).alloc _) (blk_lt H.out.hD) hb
set_option maxHeartbeats 400000 in
theorem cut_any {D base : Nat} {bv : Value} {d : DS} {n : Int} (w : World) (h : DiskAt w D base bv d) (hD : base ≤ D) (hb : base ≤ w.heap.size) :
    Calls Tryd.prog 44 #[.pointer (some ⟨D, 0, none⟩), .int .i64 n] w fun e w' => Done w D base (d.cut n) e w' := by
  have H := hide h
  clear h
  go_enter Tryd.func44, Tryd.ntmps44
  go_wp2_with fail
  refine (powered_done _ ((H.out.allocs _).allocs _) (fun _ _ => rfl) (fun hd => by simp [DS.cut, hd]) (fun hd => ?_) : Calls _ _ _ _ (fun e w' => Done _ D base (d.cut n) e w')).mono ?_
  · have hDl := blk_lt H.out.hD
    by_cases hn : n < d.syn ∨ (d.byt.length : Int) < n
    · refine (cut1_no _ ((H.out.allocs _).allocs _) (cell_new1 (by simp)) (by simp) hn).mono ?_
      rintro e w' ⟨v, rfl, rfl, k, rfl⟩
      simp only [DS.cut, hd, hn, if_false, Bool.false_eq_true, if_true]
      have hd' := ((H.out.allocs (.cells #[.pointer (some ⟨D, 0, none⟩)] 37)).allocs (.cells #[.int .i64 n] 3)).drewN k
      exact Done.intro ((H.out.allocs _).allocs _) hD (by simp; omega) hd' ((Upd.refl [] _).drewN k) (by simp) (fun _ h => .inl h)
    · obtain ⟨m, rfl⟩ : ∃ m : Nat, n = m := ⟨n.toNat, by omega⟩
      refine (cut1_yes _ ((H.out.allocs _).allocs _) (cell_new1 (by simp)) (by simp) (by omega) (by omega) (by omega) (by omega)).mono ?_
      rintro e w' ⟨v, rfl, rfl, bv', h1, h2, h3⟩
      simp only [DS.cut, hd, hn, if_false, Bool.false_eq_true, Int.toNat_natCast]
      rw [hd] at h1
      exact Done.intro ((H.out.allocs _).allocs _) hD (by simp; omega) h1 h2 (by simp) (fun k h => .inl (h3 k h))
  · rintro e w' ⟨v, rfl, rfl, h1⟩
    have H1 := hide h1
    clear h1
    go_wp2_with fail
    go_ret
    exact Done.pre ⟨_, rfl, rfl, H1.out⟩ (((Upd.refl [] _).alloc _).alloc _) (blk_lt H.out.hD) hb
set_option maxHeartbeats 400000 in
theorem crash_any {D base : Nat} {bv : Value} {d : DS} {n : Int} (w : World) (h : DiskAt w D base bv d) (hok : d.Ok 1000000000000) (hD : base ≤ D) (hb : base ≤ w.heap.size) :
    Calls Tryd.prog 21 #[.pointer (some ⟨D, 0, none⟩), .int .i64 n] w fun e w' => Done w D base (d.crash n) e w' := by
  have H := hide h
  clear h
  go_enter Tryd.func21, Tryd.ntmps21
  go_wp2_with fail
  refine (powered_done _ ((H.out.allocs _).allocs _) (fun _ _ => rfl) (fun hd => by simp [DS.crash, hd]) (fun hd => ?_) : Calls _ _ _ _ (fun e w' => Done _ D base (d.crash n) e w')).mono ?_
  · have hDl := blk_lt H.out.hD
    by_cases hn : 0 ≤ n ∧ n < (d.byt.length : Int) - d.syn
    · obtain ⟨m, rfl⟩ : ∃ m : Nat, n = m := ⟨n.toNat, by omega⟩
      refine (crash1_cut _ ((H.out.allocs _).allocs _) (cell_new1 (by simp)) (by simp) hok.len hok.syn (by omega) (by omega) (by omega)).mono ?_
      rintro e w' ⟨v, rfl, rfl, bv', h1, h2, h3⟩
      simp only [DS.crash, hd, hn, if_false, Bool.false_eq_true, and_self, if_true, Int.toNat_natCast]
      exact Done.intro ((H.out.allocs _).allocs _) hD (by simp; omega) h1 h2 (by simp) (fun k h => .inl (h3 k h))
    · refine (crash1_all _ ((H.out.allocs _).allocs _) (cell_new1 (by simp)) (by simp) hok.len hok.syn hn).mono ?_
      rintro e w' ⟨v, rfl, rfl, h1, h2⟩
      simp only [DS.crash, hd, hn, if_false, Bool.false_eq_true]
      exact Done.intro ((H.out.allocs _).allocs _) hD (by simp; omega) h1 h2 (by simp) (fun _ h => .inl h)
  · rintro e w' ⟨v, rfl, rfl, h1⟩
    have H1 := hide h1
    clear h1
    go_wp2_with fail
    go_ret
    exact Done.pre ⟨_, rfl, rfl, H1.out⟩ (((Upd.refl [] _).alloc _).alloc _) (blk_lt H.out.hD) hb
set_option maxHeartbeats 400000 in
theorem append_any {D base : Nat} {bv : Value} {d : DS} {bo : Option Addr} {bl bc : Nat} {bs : List UInt8} (w : World) (h : DiskAt w D base bv d) (hD : base ≤ D) (hb : base ≤ w.heap.size) (hs : SrcAt w bo bl bc (bs.map u8v) 1) (hbc : bl ≤ bc) (hB : bl ≤ 1000000000000) (hok : d.Ok 1000000000000) :
    Calls Tryd.prog 46 #[.pointer (some ⟨D, 0, none⟩), .slice bo bl bc] w fun e w' => Done w D base (d.append bs) e w' := by
  have H := hide h
  clear h
  go_enter Tryd.func46, Tryd.ntmps46
  go_wp2_with fail
  refine (powered_done _ ((H.out.allocs _).allocs _) (fun _ _ => rfl) (fun hd => by simp [DS.append, hd]) (fun hd => ?_) : Calls _ _ _ _ (fun e w' => Done _ D base (d.append bs) e w')).mono ?_
  · have hDl := blk_lt H.out.hD
    have hlen : bs.length = bl := by have := hs.len; simpa using this
    have hbx := Bx.mk (p0 := w.heap.size) (p1 := w.heap.size + 1) ((H.out.allocs (.cells #[.pointer (some ⟨D, 0, none⟩)] 37)).allocs (.cells #[.slice bo bl bc] 22)) (blk_alloc (blk_new _ _) _) (blk_new1 (by simp) _) (fun e => by have := (owns_lt H.out.row _ e).2; omega) (fun e => by have := (owns_lt H.out.row _ e).2; omega) (by omega) (by omega) (src_allocs (src_allocs hs _) _) hok hB (by simp; omega)
    have hS : ∀ k, k ∈ D :: bv.ownBlock.toList → k = D ∨ bv.ownBlock = some k := by simp
    by_cases h0 : 0 ≤ d.fuse
    · obtain ⟨f, hf⟩ : ∃ m : Nat, d.fuse = m := ⟨d.fuse.toNat, by omega⟩
      by_cases hfl : f < bl
      · refine (append1_torn _ hbx f hf hfl hbc).mono ?_
        rintro e w' ⟨v, rfl, rfl, bv', h1, h2, h3⟩
        have : d.append bs = ({ byt := d.byt ++ bs.take f, syn := d.syn, dead := true, fuse := -1 }, 21) := by
          simp [DS.append, hd, hf, hlen, hfl]
        rw [this]
        exact Done.intro ((H.out.allocs _).allocs _) hD (by simp; omega) h1 h2 hS h3
      · refine (append1_fits _ hbx f hf (by omega) (by have := hok.hi; omega)).mono ?_
        rintro e w' ⟨v, rfl, rfl, bv', h1, h2, h3⟩
        have : d.append bs = ({ d with byt := d.byt ++ bs, fuse := d.fuse - bs.length }, 0) := by
          simp [DS.append, hd, hf, hlen, hfl]
        rw [this]
        exact Done.intro ((H.out.allocs _).allocs _) hD (by simp; omega) h1 h2 hS h3
    · refine (append1_free _ hbx (by omega)).mono ?_
      rintro e w' ⟨v, rfl, rfl, bv', h1, h2, h3⟩
      have : d.append bs = ({ d with byt := d.byt ++ bs }, 0) := by
        simp [DS.append, hd, h0]
      rw [this]
      exact Done.intro ((H.out.allocs _).allocs _) hD (by simp; omega) h1 h2 hS h3
  · rintro e w' ⟨v, rfl, rfl, h1⟩
    have H1 := hide h1
    clear h1
    go_wp2_with fail
    go_ret
    exact Done.pre ⟨_, rfl, rfl, H1.out⟩ (((Upd.refl [] _).alloc _).alloc _) (blk_lt H.out.hD) hb
set_option maxHeartbeats 400000 in
theorem restart_any {D base : Nat} {bv : Value} {d : DS} (w : World) (h : DiskAt w D base bv d) (hD : base ≤ D) (hb : base ≤ w.heap.size) :
    Calls Tryd.prog 24 #[.pointer (some ⟨D, 0, none⟩)] w fun e w' => Done w D base d.restart e w' := by
  have hf := h.fr 2
  have hc := h.c2
  have H := hide h
  clear h
  go_enter Tryd.func24, Tryd.ntmps24
  go_wp2_with fail
  go_ret
  exact Done.intro H.out hD hb (H.out.setDead false) ((Upd.refl [D] _).setCell (.inl (by simp)) _) (by simp) (fun _ h => .inl h)
set_option maxHeartbeats 400000 in
theorem synced_any {D base : Nat} {bv : Value} {d : DS} (w : World) (h : DiskAt w D base bv d) :
    Calls Tryd.prog 23 #[.pointer (some ⟨D, 0, none⟩)] w fun e w' => e = .returned (.int .i64 d.syn) ∧ w = w' := by
  have hc := h.c1
  clear h
  go_enter Tryd.func23, Tryd.ntmps23
  go_wp2_with fail
  go_ret
  exact ⟨rfl, rfl⟩
set_option maxHeartbeats 400000 in
theorem dead_any {D base : Nat} {bv : Value} {d : DS} (w : World) (h : DiskAt w D base bv d) :
    Calls Tryd.prog 29 #[.pointer (some ⟨D, 0, none⟩)] w fun e w' => e = .returned (.bool d.dead) ∧ w = w' := by
  have hc := h.c2
  clear h
  go_enter Tryd.func29, Tryd.ntmps29
  go_wp2_with fail
  go_ret
  exact ⟨rfl, rfl⟩
set_option maxHeartbeats 400000 in
theorem new_any (w : World) :
    Calls Tryd.prog 16 #[] w fun e w' => ∃ v, e = .returned v ∧ v = .pointer (some ⟨w.heap.size, 0, none⟩) ∧ DiskAt w' w.heap.size w.heap.size (.slice none 0 0) ⟨[], 0, false, -1⟩ ∧ Upd [] w w' := by
  go_enter Tryd.func16, Tryd.ntmps16
  go_wp2_with fail
  go_ret
  refine ⟨_, rfl, rfl, ⟨blk_new _ _, ?_, by simp [Value.ownBlock]⟩, (Upd.refl _ _).alloc _⟩
  exact ⟨rfl, .inl ⟨rfl, rfl⟩⟩
set_option maxHeartbeats 400000 in
theorem bytes_any {D base : Nat} {bv : Value} {d : DS} (w : World) (h : DiskAt w D base bv d) (_ : base ≤ w.heap.size) (hl : d.byt.length ≤ 1000000000000) :
    Calls Tryd.prog 22 #[.pointer (some ⟨D, 0, none⟩)] w fun e w' => ∃ v, e = .returned v ∧ w'.ownsRow w.heap.size 5 1 v d.byt.length (d.byt.map u8v) ∧ Upd [] w w' := by
  have hc := h.c0
  obtain ⟨i0, hi, hz0, hz1, hz2⟩ := info_parts infoB
  obtain ⟨ao, cap, rfl, hcap1, hcap2, -⟩ := owns_slice h.row
  have H := hide h
  clear h
  go_enter Tryd.func22, Tryd.ntmps22
  go_wp2_with (at_builtin; go_must (refine wpList_append_src _ rfl _ _ 22 rfl w.heap.size 5 i0 (.int .u8 0) 1 1 Tryd.underlying22 hi hz0 hz1 hz2 rfl (by decide) (.slice none 0 0) 0 [] rfl ⟨rfl, .inl ⟨rfl, rfl⟩⟩ ao d.byt.length cap (d.byt.map u8v) rfl (src_of_owns H.out.row (by simp [u8v, Value.oneCell'])) (by unfold maxLen; omega) (by omega) (Nat.le_refl _) ?_))
  intro ao1 cap1 w1 hown1 hU1 hn1
  have HO := hide hown1; have HU := hide hU1
  clear hown1 hU1 hn1
  go_wp2_with fail
  go_ret
  exact ⟨_, rfl, by simpa using HO.out, HU.out⟩
end Go.Proofs.YtmgdhloehkdffaaDoor.DiskW
