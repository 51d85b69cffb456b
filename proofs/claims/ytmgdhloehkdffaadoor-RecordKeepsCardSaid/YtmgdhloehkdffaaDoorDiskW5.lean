/- The disk's acts, called from outside. -/
import Derived.Test.YtmgdhloehkdffaaDoorDiskW4
namespace Go.Proofs.YtmgdhloehkdffaaDoor.DiskW
open Go.RowKit

/-- A block that holds the disk's bytes. -/
def OwnAt (w : World) (D k : Nat) : Prop := ∃ bv, w.cell? ⟨D, 0, none⟩ = some bv ∧ bv.ownBlock = some k
theorem DiskAt.ownAt {w : World} {D base k : Nat} {bv : Value} {d : DS} (h : DiskAt w D base bv d) : OwnAt w D k ↔ bv.ownBlock = some k := by
  constructor
  · rintro ⟨bv', h1, h2⟩
    rw [h.c0] at h1
    cases h1
    exact h2
  · exact fun h1 => ⟨bv, h.c0, h1⟩
/-- Only the disk and its bytes have been turned; its bytes lie where they lay, or are new. -/
structure Near (D : Nat) (w w' : World) : Prop where
  upd : ∃ S, Upd S w w' ∧ ∀ k, k ∈ S → k = D ∨ OwnAt w D k
  own : ∀ k, OwnAt w' D k → OwnAt w D k ∨ w.heap.size ≤ k
theorem Near.refl (D : Nat) (w : World) : Near D w w := ⟨⟨[], Upd.refl _ _, by simp⟩, fun _ h => .inl h⟩
theorem Near.pre {D : Nat} {w w1 w' : World} (h : Near D w1 w') (hu : Upd [] w w1) (hD : D < w.heap.size) : Near D w w' := by
  have hc : ∀ k, OwnAt w1 D k → OwnAt w D k := fun k ⟨bv, h1, h2⟩ => ⟨bv, by
    rw [← h1]
    have := hu.block D hD (by simp)
    simp only [World.cell?, this], h2⟩
  obtain ⟨S, h1, h2⟩ := h.upd
  have h4 : Upd (S.filter (· < w.heap.size)) w w' := (hu.mono (by simp)).trans_new h1 (fun k hk => by
    rcases Nat.lt_or_ge k w.heap.size with h3 | h3
    · exact .inl (List.mem_filter.2 ⟨hk, by simpa using h3⟩)
    · exact .inr h3)
  refine ⟨⟨_, h4, fun k hk => ?_⟩, fun k hk => ?_⟩
  · rcases h2 k (List.mem_filter.1 hk).1 with h3 | h3
    · exact .inl h3
    · exact .inr (hc k h3)
  · rcases h.own k hk with h3 | h3
    · exact .inl (hc k h3)
    · exact .inr (Nat.le_trans hu.size h3)
/-- An act's answer and what it leaves. -/
def Done (w : World) (D base : Nat) (r : DS × Int) (e : Ending) (w' : World) : Prop :=
  ∃ v, e = .returned v ∧ v = .int .i64 r.2 ∧ ∃ bv', DiskAt w' D base bv' r.1 ∧ Below base w w' ∧ Near D w w'

theorem Done.intro {w w' : World} {D base : Nat} {bv bv' : Value} {d d' : DS} {x : Int} {S : List Nat} (h : DiskAt w D base bv d) (hD : base ≤ D) (hb : base ≤ w.heap.size) (h' : DiskAt w' D base bv' d') (hu : Upd S w w')
    (hS : ∀ k, k ∈ S → k = D ∨ bv.ownBlock = some k) (hN : ∀ k, bv'.ownBlock = some k → bv.ownBlock = some k ∨ w.heap.size ≤ k) : Done w D base (d', x) (.returned (.int .i64 x)) w' :=
  ⟨_, rfl, rfl, bv', h', hu.below (fun k hk => by
    rcases hS k hk with rfl | h1
    · exact hD
    · exact (owns_lt h.row k h1).1) hb, ⟨⟨S, hu, fun k hk => (hS k hk).imp id h.ownAt.2⟩, fun k hk => (hN k (h'.ownAt.1 hk)).imp h.ownAt.2 id⟩⟩

theorem Done.pre {w w1 w' : World} {D base : Nat} {r : DS × Int} {e : Ending} (h : Done w1 D base r e w') (hu : Upd [] w w1) (hD : D < w.heap.size) (hb : base ≤ w.heap.size) : Done w D base r e w' := by
  obtain ⟨v, h1, h2, bv', h3, h4, h5⟩ := h
  exact ⟨v, h1, h2, bv', h3, (hu.below (by simp) hb).trans h4, h5.pre hu hD⟩
theorem powered_done {D base g : Nat} {bv : Value} {d : DS} {cap : Array Value} {r : DS × Int} (w : World) (h : DiskAt w D base bv d) (eg : ∀ args w, (callFunc g args).run Tryd.prog w = .ok (.enter g args) w)
    (hoff : d.dead = true → r = (d, 20)) (hon : d.dead = false → Calls Tryd.prog g cap w fun e w' => Done w D base r e w') :
    Calls Tryd.prog 47 #[.pointer (some ⟨D, 0, none⟩), .func (.func g) #[] cap] w fun e w' => Done w D base r e w' := by
  cases hd : d.dead with
  | true =>
    refine (powered_dead w (by rw [h.c2, hd])).mono ?_
    rintro e w' ⟨rfl, rfl⟩
    rw [hoff hd]
    exact ⟨_, rfl, rfl, bv, h, Below.refl _ _, Near.refl _ _⟩
  | false =>
    refine (powered_on (R := fun v w' => v = .int .i64 r.2 ∧ ∃ bv', DiskAt w' D base bv' r.1 ∧ Below base w w' ∧ Near D w w') w (by rw [h.c2, hd]) eg (hon hd)).mono ?_
    exact fun e w' h => h
theorem DiskAt.allocs {w : World} {D base : Nat} {bv : Value} {d : DS} (h : DiskAt w D base bv d) (o : Obj) : DiskAt (w.alloc o) D base bv d :=
  h.upd ((Upd.refl [] w).alloc o) (by simp) (fun _ _ => by simp)
theorem below_alloc {w : World} {B : Nat} (hB : B ≤ w.heap.size) (o : Obj) : Below B w (w.alloc o) := ((Upd.refl [] w).alloc o).below (by simp) hB

set_option maxHeartbeats 400000 in
theorem sync_any {D base : Nat} {bv : Value} {d : DS} (w : World) (h : DiskAt w D base bv d) (hD : base ≤ D) (hb : base ≤ w.heap.size) :
    Calls Tryd.prog 45 #[.pointer (some ⟨D, 0, none⟩)] w fun e w' => Done w D base d.sync e w' := by
  have H := hide h
  clear h
  go_enter Tryd.func45, Tryd.ntmps45
  go_wp2_with fail
  refine (powered_done _ (H.out.allocs _) (fun _ _ => rfl) (fun hd => by simp [DS.sync, hd]) (fun hd => ?_) : Calls _ _ _ _ (fun e w' => Done _ D base d.sync e w')).mono ?_
  · refine (sync1 _ (H.out.allocs _) (cell_new1 rfl)).mono ?_
    rintro e w' ⟨v, rfl, rfl, h1, h2⟩
    simp only [DS.sync, hd, if_false, Bool.false_eq_true]
    rw [hd] at h1
    exact Done.intro (H.out.allocs _) hD (by simp; omega) h1 h2 (by simp) (fun _ h => .inl h)
  · rintro e w' ⟨v, rfl, rfl, h1⟩
    have H1 := hide h1
    clear h1
    go_wp2_with fail
    go_ret
    exact Done.pre ⟨_, rfl, rfl, H1.out⟩ ((Upd.refl [] _).alloc _) (blk_lt H.out.hD) hb

set_option maxHeartbeats 400000 in
theorem fuse1 {D base p q : Nat} {bv : Value} {d : DS} {n : Int} (w : World) (h : DiskAt w D base bv d) (hp : w.cell? ⟨p, 0, none⟩ = some (.int .i64 n)) (hq : w.cell? ⟨q, 0, none⟩ = some (.pointer (some ⟨D, 0, none⟩))) :
    Calls Tryd.prog 50 #[.pointer (some ⟨p, 0, none⟩), .pointer (some ⟨q, 0, none⟩)] w fun e w' => ∃ v, e = .returned v ∧ v = .int .i64 0 ∧ DiskAt w' D base bv { d with fuse := max n (-1) } ∧ Upd [D] w w' := by
  have hc3 := h.c3
  have hf := h.fr 3
  have H := hide h
  clear h
  go_enter Tryd.func50, Tryd.ntmps50
  go_wp2_with fail
  · go_ret
    have e : max n (-1) = -1 := by omega
    rw [e]
    exact ⟨_, rfl, rfl, H.out.setFuse _, (Upd.refl _ _).setCell (.inl (by simp)) _⟩
  · go_ret
    have e : max n (-1) = n := by omega
    rw [e]
    exact ⟨_, rfl, rfl, H.out.setFuse _, (Upd.refl _ _).setCell (.inl (by simp)) _⟩
theorem DiskAt.take {w : World} {D base : Nat} {ao : Option Addr} {cap : Nat} {d : DS} (h : DiskAt w D base (.slice ao d.byt.length cap) d) (m : Nat) (hm : m ≤ d.byt.length) :
    DiskAt (w.setCell ⟨D, 0, none⟩ (.slice ao m cap)) D base (.slice ao m cap) { d with byt := d.byt.take m } := by
  have hne : (Value.slice ao m cap).ownBlock ≠ some D := by
    have := h.ne
    cases ao with
    | none => simp [Value.ownBlock]
    | some a => simpa [Value.ownBlock] using this
  refine ⟨blk_set h.hD _, ?_, hne⟩
  refine ownsRow_setCell_other ?_ hne _
  have hl : (d.byt.take m).length = m := by simp; omega
  show w.ownsRow base 5 1 _ (d.byt.take m).length ((d.byt.take m).map u8v)
  rw [hl]
  refine ⟨by simp; omega, ?_⟩
  rcases h.row.2 with ⟨h1, h2⟩ | ⟨g, c, cur, h1, h2, h3, h4, h5, h6, h7⟩
  · injection h1 with e1 e2 e3
    exact .inl ⟨by rw [show m = 0 by omega, e1, e3], by omega⟩
  · injection h1 with e1 e2 e3
    subst e1 e3
    refine .inr ⟨g, cap, cur, rfl, h2, h3, by omega, h5, h6, ?_⟩
    rw [List.map_take, ← h7, List.take_take]
    congr 1
    omega
set_option maxHeartbeats 400000 in
theorem cut1_no {D base p q : Nat} {bv : Value} {d : DS} {n : Int} (w : World) (h : DiskAt w D base bv d) (hp : w.cell? ⟨p, 0, none⟩ = some (.int .i64 n)) (hq : w.cell? ⟨q, 0, none⟩ = some (.pointer (some ⟨D, 0, none⟩)))
    (hn : n < d.syn ∨ d.byt.length < n) : Calls Tryd.prog 57 #[.pointer (some ⟨p, 0, none⟩), .pointer (some ⟨q, 0, none⟩)] w fun e w' => ∃ v, e = .returned v ∧ v = .int .i64 1 ∧ ∃ k, w' = w.drewN k := by
  have hc0 := h.c0
  have hc1 := h.c1
  obtain ⟨ao, cap, rfl, hcap1, hcap2, -⟩ := owns_slice h.row
  clear h
  by_cases hn1 : n < d.syn
  · have hd1 : decide (n < d.syn) = true := by simpa using hn1
    clear hn hn1
    go_enter Tryd.func57, Tryd.ntmps57
    go_wp2_with fail
    go_quiet (fail)
    go_wp2_with fail
    go_ret
    exact ⟨_, rfl, rfl, _, rfl⟩
  · have hd1 : decide (n < d.syn) = false := by simpa using hn1
    have hd2 : decide ((d.byt.length : Int) < n) = true := by simpa using hn.resolve_left hn1
    clear hn hn1
    go_enter Tryd.func57, Tryd.ntmps57
    go_wp2_with fail
    go_quiet (fail)
    go_wp2_with fail
    go_ret
    exact ⟨_, rfl, rfl, _, rfl⟩
set_option maxHeartbeats 400000 in
theorem cut1_yes {D base p q : Nat} {bv : Value} {d : DS} {m : Nat} (w : World) (h : DiskAt w D base bv d) (hp : w.cell? ⟨p, 0, none⟩ = some (.int .i64 m)) (hq : w.cell? ⟨q, 0, none⟩ = some (.pointer (some ⟨D, 0, none⟩)))
    (hn1 : d.syn ≤ m) (hn2 : m ≤ d.byt.length) (_ : D ≠ p) (_ : D ≠ q) : Calls Tryd.prog 57 #[.pointer (some ⟨p, 0, none⟩), .pointer (some ⟨q, 0, none⟩)] w fun e w' => ∃ v, e = .returned v ∧ v = .int .i64 0 ∧ ∃ bv', DiskAt w' D base bv' { d with byt := d.byt.take m } ∧ Upd [D] w w' ∧ ∀ k, bv'.ownBlock = some k → bv.ownBlock = some k := by
  have hc0 := h.c0
  have hc1 := h.c1
  have hf := h.fr 0
  obtain ⟨ao, cap, rfl, hcap1, hcap2, -⟩ := owns_slice h.row
  have hd1 : decide ((m : Int) < d.syn) = false := by simp; omega
  have hd3 : decide (m < d.syn) = false := by simp; omega
  have hd2 : decide ((d.byt.length : Int) < m) = false := by simp; omega
  have hd4 : decide (d.byt.length < m) = false := by simp; omega
  have hmc : m ≤ cap := by omega
  have H := hide h
  clear h
  go_enter Tryd.func57, Tryd.ntmps57
  go_wp2_with fail
  go_quiet (fail)
  go_wp2_with fail
  go_region
  go_wp2_with fail
  go_ret
  exact ⟨_, rfl, rfl, _, (H.out.drewN _).take m hn2, ((Upd.refl _ _).drewN _).setCell (.inl (by simp)) _, fun k hk => by cases ao <;> exact hk⟩
set_option maxHeartbeats 400000 in
theorem crash1_cut {D base p q : Nat} {bv : Value} {d : DS} {m : Nat} (w : World) (h : DiskAt w D base bv d) (hp : w.cell? ⟨p, 0, none⟩ = some (.int .i64 m)) (hq : w.cell? ⟨q, 0, none⟩ = some (.pointer (some ⟨D, 0, none⟩)))
    (hl : d.byt.length ≤ 1000000000000) (hs : d.syn ≤ d.byt.length) (hn2 : m < d.byt.length - d.syn) (hDp : D ≠ p) (hDq : D ≠ q) : Calls Tryd.prog 48 #[.pointer (some ⟨q, 0, none⟩), .pointer (some ⟨p, 0, none⟩)] w fun e w' => ∃ v, e = .returned v ∧ v = .int .i64 0 ∧ ∃ bv', DiskAt w' D base bv' { byt := d.byt.take (d.syn + m), syn := d.syn, dead := true, fuse := -1 } ∧ Upd [D] w w' ∧ ∀ k, bv'.ownBlock = some k → bv.ownBlock = some k := by
  have hc0 := h.c0
  have hc1 := h.c1
  have hf := h.fr 0
  obtain ⟨ao, cap, rfl, hcap1, hcap2, -⟩ := owns_slice h.row
  have hd1 : decide ((0 : Int) ≤ m) = true := by simp
  have hd2 : decide ((m : Int) < (d.byt.length : Int) - d.syn) = true := by simp; omega
  have hmc : d.syn + m ≤ cap := by omega
  have hml : d.syn + m ≤ d.byt.length := by omega
  have H := hide h
  clear h
  go_enter Tryd.func48, Tryd.ntmps48
  go_wp2_with fail
  go_quiet (fail)
  go_wp2_with fail
  go_region
  go_wp2_with fail
  refine (off_any _ ((H.out.drewN _).take (d.syn + m) hml)).mono ?_
  rintro e w2 ⟨rfl, hd2, hu2⟩
  have HD := hide hd2; have HU := hide hu2
  clear hd2 hu2
  go_wp2_with fail
  go_ret
  exact ⟨_, rfl, rfl, _, HD.out, (((Upd.refl _ _).drewN _).setCell (.inl (by simp)) _).trans HU.out, fun k hk => by cases ao <;> exact hk⟩
set_option maxHeartbeats 400000 in
theorem crash1_all {D base p q : Nat} {bv : Value} {d : DS} {n : Int} (w : World) (h : DiskAt w D base bv d) (hp : w.cell? ⟨p, 0, none⟩ = some (.int .i64 n)) (hq : w.cell? ⟨q, 0, none⟩ = some (.pointer (some ⟨D, 0, none⟩)))
    (hl : d.byt.length ≤ 1000000000000) (hs : d.syn ≤ d.byt.length) (hn2 : ¬ (0 ≤ n ∧ n < (d.byt.length : Int) - d.syn)) : Calls Tryd.prog 48 #[.pointer (some ⟨q, 0, none⟩), .pointer (some ⟨p, 0, none⟩)] w fun e w' => ∃ v, e = .returned v ∧ v = .int .i64 0 ∧ DiskAt w' D base bv { byt := d.byt, syn := d.syn, dead := true, fuse := -1 } ∧ Upd [D] w w' := by
  have hc0 := h.c0
  have hc1 := h.c1
  obtain ⟨ao, cap, rfl, hcap1, hcap2, -⟩ := owns_slice h.row
  by_cases hn : 0 ≤ n
  · have hd1 : decide (0 ≤ n) = true := by simpa using hn
    have hd2 : decide (n < (d.byt.length : Int) - d.syn) = false := by simp; omega
    clear hn hn2
    have H := hide h
    clear h
    go_enter Tryd.func48, Tryd.ntmps48
    go_wp2_with fail
    go_quiet (fail)
    go_wp2_with fail
    refine (off_any _ (H.out.drewN _)).mono ?_
    rintro e w2 ⟨rfl, hd2, hu2⟩
    have HD := hide hd2; have HU := hide hu2
    clear hd2 hu2
    go_wp2_with fail
    go_ret
    exact ⟨_, rfl, rfl, HD.out, ((Upd.refl _ _).drewN _).trans HU.out⟩
  · have hd1 : decide (0 ≤ n) = false := by simpa using hn
    clear hn hn2
    have H := hide h
    clear h
    go_enter Tryd.func48, Tryd.ntmps48
    go_wp2_with fail
    go_quiet (fail)
    go_wp2_with fail
    refine (off_any _ (H.out.drewN _)).mono ?_
    rintro e w2 ⟨rfl, hd2, hu2⟩
    have HD := hide hd2; have HU := hide hu2
    clear hd2 hu2
    go_wp2_with fail
    go_ret
    exact ⟨_, rfl, rfl, HD.out, ((Upd.refl _ _).drewN _).trans HU.out⟩
end Go.Proofs.YtmgdhloehkdffaaDoor.DiskW
