/- quoratelaw06.RecordAppends returns true, and turns nothing that was there. -/
import Derived.Test.YtmgdhloehkdffaaDoorRecKw
namespace Go.Proofs.YtmgdhloehkdffaaDoor.Rec
open Go.RowKit Go.Proofs.YtmgdhloehkdffaaDoor.Var Go.Proofs.YtmgdhloehkdffaaDoor.Crc Go.Proofs.YtmgdhloehkdffaaDoor.Fr Go.Proofs.YtmgdhloehkdffaaDoor.DiskW

theorem log_cases (n : Int) (bs : List UInt8) (h : bs.length ≤ 65536) (hhi : n ≤ 9223372036854775807) :
    (bs.length = 0 ∧ DS.log ⟨[], 0, false, max n (-1)⟩ bs = (⟨[], 0, false, max n (-1)⟩, 3)) ∨
    (bs.length ≠ 0 ∧ ∃ m : Nat, n = (m : Int) ∧ ∃ y : List UInt8, y.length = m ∧ m ≤ 1000000 ∧ DS.log ⟨[], 0, false, max n (-1)⟩ bs = (⟨y, 0, true, -1⟩, 21)) ∨
    (bs.length ≠ 0 ∧ ∃ f : Int, -1 ≤ f ∧ f ≤ 9223372036854775807 ∧ DS.log ⟨[], 0, false, max n (-1)⟩ bs = (⟨fr bs, 0, false, f⟩, 0)) := by
  have h10 := uv_len10 (n := bs.length) (by omega)
  have hl := fr_len bs
  by_cases h0 : bs.length = 0
  · refine .inl ⟨h0, ?_⟩
    unfold DS.log
    rw [if_neg (by simp), if_pos (.inl h0)]
  · have e1 : DS.log ⟨[], 0, false, max n (-1)⟩ bs = DS.append ⟨[], 0, false, max n (-1)⟩ (fr bs) := by
      unfold DS.log
      rw [if_neg (by simp), if_neg (by omega)]
    rw [e1]
    by_cases h1 : 0 ≤ max n (-1) ∧ max n (-1) < (fr bs).length
    · refine .inr (.inl ⟨h0, n.toNat, by omega, (fr bs).take n.toNat, ?_, by omega, ?_⟩)
      · rw [List.length_take]; omega
      · unfold DS.append
        rw [if_neg (by simp), if_pos h1]
        have : (max n (-1)).toNat = n.toNat := by omega
        simp [this]
    · refine .inr (.inr ⟨h0, if 0 ≤ max n (-1) then max n (-1) - (fr bs).length else max n (-1), by split <;> omega, by split <;> omega, ?_⟩)
      unfold DS.append
      rw [if_neg (by simp), if_neg h1]
      rfl
theorem bytes_at {w w1 : World} {D : Nat} {d : DS} (h : At w D d w1) (hl : d.byt.length ≤ 1000000000000) : Calls Tryd.prog 22 #[.pointer (some ⟨D, 0, none⟩)] w1 fun e w2 => (∃ ao cap, e = .returned (.slice ao d.byt.length cap) ∧ w2.ownsRow w1.heap.size 5 1 (.slice ao d.byt.length cap) d.byt.length (d.byt.map u8v)) ∧ Upd [] w1 w2 := by
  obtain ⟨hD, hu, bv, h1⟩ := id h
  refine (bytes_any w1 h1 hu.size hl).mono ?_
  rintro e w2 ⟨v, rfl, ho, hu2⟩
  obtain ⟨ao, cap, rfl, -, -, -⟩ := owns_slice ho
  exact ⟨⟨ao, cap, rfl, ho⟩, hu2⟩
set_option maxRecDepth 100000 in
set_option maxHeartbeats 1000000 in
theorem appends_long {bo : Option Addr} {bl bc : Nat} {n : Int} (w : World) (hst : TabAt w) (h : 1000 < bl) : Calls Tryd.prog 8 #[.slice bo bl bc, .int .i64 n] w fun e w' => e = .returned (.bool true) ∧ Upd [] w w' := by
  have HST := hide hst
  have q : decide ((1000 : Int) < bl) = true := by simp; omega
  clear hst h
  go_enter Tryd.func8, Tryd.ntmps8
  go_wp2_with fail
  refine (wakes_any _ HST.out).mono ?_
  rintro e w1 ⟨rfl, hu⟩
  have HU := hide hu
  clear hu
  go_wp2_with fail
  go_ret
  exact ⟨rfl, HU.out⟩
set_option maxRecDepth 100000 in
set_option maxHeartbeats 4000000 in
theorem appends_any {bo : Option Addr} {bl bc : Nat} {bs : List UInt8} {n : Int} (w : World) (hst : TabAt w) (hs : SrcAt w bo bl bc (bs.map u8v) 1) (hbl : bl ≤ 1000) (hlo : -9223372036854775808 ≤ n) (hhi : n ≤ 9223372036854775807) :
    Calls Tryd.prog 8 #[.slice bo bl bc, .int .i64 n] w fun e w' => e = .returned (.bool true) ∧ Upd [] w w' := by
  have HST := hide hst; have HS := hide hs
  have hlen : bs.length = bl := by have := hs.len; simpa using this
  have q : decide ((1000 : Int) < bl) = false := by simp; omega
  have HB := hide hbl; have HLO := hide hlo; have HHI := hide hhi; have HL := hide hlen
  clear hst hs hbl hlo hhi hlen
  go_enter Tryd.func8, Tryd.ntmps8
  go_wp2_with fail
  refine (new_at w).mono ?_
  rintro e w1 ⟨rfl, h1⟩
  have H1 := hide h1
  clear h1
  go_wp2_with fail
  refine (open_at HST.out H1.out ⟨by simp, by simp, by simp, by simp⟩).mono ?_
  rintro e w2 ho
  obtain ⟨L, ao, cap, vs, rfl, hL, -, h2, -⟩ := ho.ok (l1 := []) (l2 := []) (n1 := 0) (n2 := 0) (e2 := 0) rfl rfl rfl
  have h2' : At w w.heap.size ⟨[], 0, false, -1⟩ w2 := h2
  have H2 := hide h2'; have L2 := hide hL
  clear ho hL h2 h2'
  simp only [List.append_nil, List.length_nil]
  go_wp2_with fail
  refine (fuse_at H2.out).mono ?_
  rintro e w3 ⟨rfl, h3, hn3⟩
  have e3 : DS.setFuse ⟨[], 0, false, -1⟩ n = (⟨[], 0, false, max n (-1)⟩, 0) := rfl
  rw [e3] at h3
  have H3 := hide h3; have L3 := hide (L2.out.near hn3)
  clear h3 hn3 e3
  go_wp2_with fail
  refine (lappend_at (bs := bs) HST.out H3.out L3.out (src_upd_nil HS.out H3.out.2.1) ⟨by simp, by simp, by have := HLO.out; simp only; omega, by have := HHI.out; simp only; omega⟩ (by have := HB.out; omega)).mono ?_
  rintro e w4 ⟨rfl, h4, hn4⟩
  have L4 := hide (L3.out.near hn4)
  clear hn4
  rcases log_cases n bs (by have := HB.out; have := HL.out; omega) HHI.out with ⟨h0, e4⟩ | ⟨h0, m, rfl, y, rfl, hm, e4⟩ | ⟨h0, f, hf1, hf2, e4⟩
  all_goals
    rw [e4] at h4
    rw [e4]
    have H4 := hide h4
    rw [HL.out] at h0
    clear h4 e4
  · have q0 : ((bl : Int) == 0) = true := by simp; omega
    subst h0
    go_wp2_with fail
    refine (bytes_at H4.out (by simp)).mono ?_
    rintro e w5 ⟨⟨bo5, bc5, rfl, -⟩, hu5⟩
    have H5 := hide (H4.out.quiet hu5).1; have L5 := hide (L4.out.near (H4.out.quiet hu5).2)
    clear hu5
    simp only [List.length_nil]
    go_wp2_with fail
    refine (open_nil _).mono ?_
    rintro e w6 ⟨rfl, hu6⟩
    have H6 := hide (H5.out.quiet hu6).1; have L6 := hide (L5.out.near (H5.out.quiet hu6).2)
    clear hu6
    go_wp2_with fail
    refine (append_nil _).mono ?_
    rintro e w7 ⟨rfl, rfl⟩
    go_wp2_with fail
    refine (sync_nil _).mono ?_
    rintro e w7 ⟨rfl, rfl⟩
    go_wp2_with fail
    refine (wakes_any _ (HST.out.upd H6.out.2.1 (by simp))).mono ?_
    rintro e w9 ⟨rfl, hu9⟩
    have U9 := hide (Upd.trans H6.out.2.1 hu9)
    clear hu9
    go_wp2_with fail
    go_ret
    exact ⟨rfl, U9.out⟩
  · have q0 : ((bl : Int) == 0) = false := by simp; omega
    go_wp2_with fail
    refine (bytes_at H4.out (by simp only; omega)).mono ?_
    rintro e w5 ⟨⟨bo5, bc5, rfl, -⟩, hu5⟩
    have H5 := hide (H4.out.quiet hu5).1; have L5 := hide (L4.out.near (H4.out.quiet hu5).2)
    clear hu5
    simp only []
    go_wp2_with fail
    refine (open_nil _).mono ?_
    rintro e w6 ⟨rfl, hu6⟩
    have H6 := hide (H5.out.quiet hu6).1; have L6 := hide (L5.out.near (H5.out.quiet hu6).2)
    clear hu6
    go_wp2_with fail
    refine (append_nil _).mono ?_
    rintro e w7 ⟨rfl, rfl⟩
    go_wp2_with fail
    refine (sync_nil _).mono ?_
    rintro e w7 ⟨rfl, rfl⟩
    go_wp2_with fail
    obtain ⟨bv6, hd6⟩ := H6.out.2.2
    refine (dead_any _ hd6).mono ?_
    rintro e w7 ⟨rfl, rfl⟩
    clear hd6
    go_wp2_with fail
    refine (lappend_at (bs := bs) HST.out H6.out L6.out (src_upd_nil HS.out H6.out.2.1) ⟨by simp, by simp only; omega, by simp, by simp⟩ (by have := HB.out; omega)).mono ?_
    rintro e w7 ⟨rfl, h7, hn7⟩
    have e7 : DS.log ⟨y, 0, true, -1⟩ bs = (⟨y, 0, true, -1⟩, 20) := rfl
    rw [e7] at h7
    rw [e7]
    have H7 := hide h7; have L7 := hide (L6.out.near hn7)
    clear h7 hn7 e7
    go_wp2_with fail
    refine (lsync_at H7.out L7.out).mono ?_
    rintro e w8 ⟨rfl, h8, -⟩
    have e8 : DS.sync ⟨y, 0, true, -1⟩ = (⟨y, 0, true, -1⟩, 20) := rfl
    rw [e8] at h8
    rw [e8]
    have H8 := hide h8
    clear h8 e8
    go_wp2_with fail
    refine (wakes_any _ (HST.out.upd H8.out.2.1 (by simp))).mono ?_
    rintro e w9 ⟨rfl, hu9⟩
    have U9 := hide (Upd.trans H8.out.2.1 hu9)
    clear hu9
    go_wp2_with fail
    go_ret
    exact ⟨rfl, U9.out⟩
  · have q0 : ((bl : Int) == 0) = false := by simp; omega
    have hfl := fr_len bs
    have huv := uv_len_pos bs.length
    have h10 := uv_len10 (n := bs.length) (by have := HB.out; have := HL.out; omega)
    rw [HL.out] at hfl huv h10
    have hwr : IntKind.i64.wrap ((bl : Int) + 4) = (bl : Int) + 4 := IntWalk.i64_in _ (by have := HB.out; omega)
    have hgt : decide ((bl : Int) + 4 < ((fr bs).length : Int)) = true := by simp; omega
    have hfb : (fr bs).length ≤ 1000000 := by have := HB.out; omega
    clear hfl huv h10
    go_wp2_with fail
    refine (bytes_at H4.out (by simp only; omega)).mono ?_
    rintro e w5 ⟨⟨bo5, bc5, rfl, -⟩, hu5⟩
    have H5 := hide (H4.out.quiet hu5).1; have L5 := hide (L4.out.near (H4.out.quiet hu5).2)
    clear hu5
    simp only []
    go_wp2_with fail
    refine (open_nil _).mono ?_
    rintro e w6 ⟨rfl, hu6⟩
    have H6 := hide (H5.out.quiet hu6).1; have L6 := hide (L5.out.near (H5.out.quiet hu6).2)
    clear hu6
    go_wp2_with fail
    refine (append_nil _).mono ?_
    rintro e w7 ⟨rfl, rfl⟩
    go_wp2_with fail
    refine (sync_nil _).mono ?_
    rintro e w7 ⟨rfl, rfl⟩
    go_wp2_with fail
    obtain ⟨bv6, hd6⟩ := H6.out.2.2
    refine (dead_any _ hd6).mono ?_
    rintro e w7 ⟨rfl, rfl⟩
    clear hd6
    go_wp2_with fail
    refine (lsync_at H6.out L6.out).mono ?_
    rintro e w8 ⟨rfl, h8, -⟩
    have e8 : DS.sync ⟨fr bs, 0, false, f⟩ = (⟨fr bs, (fr bs).length, false, f⟩, 0) := rfl
    rw [e8] at h8
    rw [e8]
    have H8 := hide h8
    clear h8 e8
    go_wp2_with fail
    obtain ⟨bv8, hd8⟩ := H8.out.2.2
    refine (synced_any _ hd8).mono ?_
    rintro e w9 ⟨rfl, rfl⟩
    clear hd8
    go_wp2_with fail
    refine (wakes_any _ (HST.out.upd H8.out.2.1 (by simp))).mono ?_
    rintro e w9 ⟨rfl, hu9⟩
    have U9 := hide (Upd.trans H8.out.2.1 hu9)
    clear hu9
    go_wp2_with fail
    go_ret
    exact ⟨rfl, U9.out⟩
end Go.Proofs.YtmgdhloehkdffaaDoor.Rec
