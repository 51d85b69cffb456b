/- record.Log's Append and Sync. -/
import Derived.Test.YtmgdhloehkdffaaDoorRecO
namespace Go.Proofs.YtmgdhloehkdffaaDoor.Rec
open Go.RowKit Go.Proofs.YtmgdhloehkdffaaDoor.Var Go.Proofs.YtmgdhloehkdffaaDoor.Crc Go.Proofs.YtmgdhloehkdffaaDoor.Fr Go.Proofs.YtmgdhloehkdffaaDoor.DiskW

/-- What Append does to the disk, and answers. -/
def _root_.Go.Proofs.YtmgdhloehkdffaaDoor.DS.log (d : DS) (ins : List UInt8) : DS × Int := if d.dead then (d, 20) else if ins.length = 0 ∨ 65536 < ins.length then (d, 3) else d.append (fr ins)
set_option maxHeartbeats 400000 in
theorem append_nil {bo : Option Addr} {bl bc : Nat} (w : World) : Calls Tryd.prog 20 #[.pointer none, .slice bo bl bc] w fun e w' => e = .returned (.int .i64 2) ∧ w = w' := by
  go_enter Tryd.func20, Tryd.ntmps20
  go_wp2_with fail
  go_ret
  exact ⟨rfl, rfl⟩
set_option maxHeartbeats 400000 in
theorem sync_nil (w : World) : Calls Tryd.prog 19 #[.pointer none] w fun e w' => e = .returned (.int .i64 2) ∧ w = w' := by
  go_enter Tryd.func19, Tryd.ntmps19
  go_wp2_with fail
  go_ret
  exact ⟨rfl, rfl⟩
set_option maxHeartbeats 400000 in
theorem lsync_any {D base L : Nat} {bv : Value} {d : DS} (w : World) (h : DiskAt w D base bv d) (hD : base ≤ D) (hb : base ≤ w.heap.size) (hL : w.heap[L]? = some (.cells #[.pointer (some ⟨D, 0, none⟩)] 78 (0, 0))) :
    Calls Tryd.prog 19 #[.pointer (some ⟨L, 0, none⟩)] w fun e w' => Done w D base d.sync e w' := by
  have c0 := blk_cell (i := 0) hL rfl
  simp only [List.getElem_toArray, List.getElem_cons_zero] at c0
  have H := hide h
  clear h
  go_enter Tryd.func19, Tryd.ntmps19
  go_wp2_with fail
  refine (sync_any _ H.out hD hb).mono ?_
  rintro e w1 ⟨v, rfl, rfl, h1⟩
  have H1 := hide h1
  clear h1
  go_wp2_with fail
  go_ret
  exact ⟨_, rfl, rfl, H1.out⟩
set_option maxHeartbeats 1000000 in
theorem lappend_any {D base L : Nat} {bv : Value} {d : DS} {bo : Option Addr} {bl bc : Nat} {bs : List UInt8} (w : World) (h : DiskAt w D base bv d) (hD : base ≤ D) (hb : base ≤ w.heap.size) (hL : w.heap[L]? = some (.cells #[.pointer (some ⟨D, 0, none⟩)] 78 (0, 0)))
    (hst : TabAt w) (hs : SrcAt w bo bl bc (bs.map u8v) 1) (hok : d.Ok 1000000000000) (hl : bl ≤ 65536) :
    Calls Tryd.prog 20 #[.pointer (some ⟨L, 0, none⟩), .slice bo bl bc] w fun e w' => Done w D base (d.log bs) e w' := by
  have c0 := blk_cell (i := 0) hL rfl
  simp only [List.getElem_toArray, List.getElem_cons_zero] at c0
  have hlen : bs.length = bl := by have := hs.len; simpa using this
  have hdl := blk_lt h.hD
  have H := hide h; have HST := hide hst; have HS := hide hs; have HL := hide hlen; have HOK := hide hok
  clear h hst hs hlen hok
  go_enter Tryd.func20, Tryd.ntmps20
  go_wp2_with fail
  refine (dead_any _ H.out).mono ?_
  rintro e w1 ⟨rfl, rfl⟩
  cases hd : d.dead with
  | true =>
    go_wp2_with fail
    go_ret
    have e1 : d.log bs = (d, 20) := by unfold DS.log; rw [hd]; rfl
    rw [e1]
    exact ⟨_, rfl, rfl, bv, H.out, Below.refl _ _, Near.refl _ _⟩
  | false =>
    by_cases h0 : bl = 0
    · subst h0
      go_wp2_with fail
      refine (put_long _ (.inl rfl)).mono ?_
      rintro e w1 ⟨rfl, rfl⟩
      go_wp2_with fail
      go_ret
      have e1 : d.log bs = (d, 3) := by unfold DS.log; rw [hd, HL.out]; rfl
      rw [e1]
      exact ⟨_, rfl, rfl, bv, H.out, Below.refl _ _, Near.refl _ _⟩
    · go_wp2_with fail
      refine (put_any (base := w.heap.size) (bs := []) (ins := bs) _ HST.out ⟨rfl, .inl ⟨rfl, rfl⟩⟩ (Nat.le_refl _) (by simp) HS.out (by omega) (by omega) (fun a _ h => by cases h)).mono ?_
      rintro e w1 ⟨v1, rfl, hg⟩
      have ho1 := hg.own
      rw [List.nil_append] at ho1
      obtain ⟨ao1, cap1, rfl, hc1, hc2, -⟩ := owns_slice ho1
      have hu1 : Upd [] w w1 := hg.upd
      have e1 : d.log bs = d.append (fr bs) := by unfold DS.log; rw [hd, HL.out, if_neg (by simp), if_neg (by omega)]
      have hfl : (fr bs).length ≤ 1000000 := by rw [fr_len]; have := HL.out; have := uv_len10 (n := bs.length) (by omega); omega
      have D1 := hide (H.out.upd hu1 (by simp) (by simp)); have S1 := hide (src_own ho1 (by simp [u8v, Value.oneCell'])); have U1 := hide hu1
      have hs1 := hu1.size
      have c1 := cell_keep hu1 c0 (by simp)
      clear ho1 hg hu1
      go_wp2_with fail
      refine (append_any (bs := fr bs) _ D1.out hD (by omega) S1.out hc1 (by omega) HOK.out).mono ?_
      rintro e w2 hdn
      have hdn := Done.pre hdn U1.out hdl hb
      obtain ⟨v, rfl, rfl, h2⟩ := hdn
      have H2 := hide h2
      clear h2
      go_wp2_with fail
      go_ret
      rw [e1]
      exact ⟨_, rfl, rfl, H2.out⟩
end Go.Proofs.YtmgdhloehkdffaaDoor.Rec
