/- The checksum's functions: what each call answers and what it leaves in memory, where the table holds its numbers. -/
import Derived.Test.YtekbhfpdakhhkaaGreatDoorCrcAll
import Derived.Test.YtekbhfpdakhhkaaGreatDoorGenAll
import Derived.Laws.BitsAllLaws
namespace Go.Proofs.YtekbhfpdakhhkaaGreatDoor.Crc
open Go.RowKit

/-- The table is in place. -/
def TabAt (w : World) : Prop := ∀ i, i < 16 → w.cell? ⟨0, i, none⟩ = some (.int .u32 (tab.getD i 0 : Nat))
theorem TabAt.lt {w : World} (h : TabAt w) : 0 < w.heap.size := World.block_lt_of_cell? w _ (h 0 (by decide))
theorem TabAt.upd {S : List Nat} {w w' : World} (h : TabAt w) (hu : Upd S w w') (hS : 0 ∉ S) : TabAt w' := fun i hi => by
  have h1 := h i hi
  have h2 := hu.block _ h.lt hS
  rw [← h1]
  simp only [World.cell?, h2]
theorem tab_lt (i : Nat) : tab.getD i 0 < 4294967296 := by
  by_cases h : i < 16
  · exact (by decide : ∀ i, i < 16 → tab.getD i 0 < 4294967296) i h
  · rw [List.getD_eq_getElem?_getD, List.getElem?_eq_none (by simp [tab]; omega)]; decide

set_option maxHeartbeats 400000 in
theorem four_any {p c x : Nat} (w : World) (hst : TabAt w) (hp : w.heap[p]? = some (.cells #[.int .u32 (c : Int)] 102 (0, 0))) (hc : c < 4294967296) (hx : x < 16) :
    Calls Tryz.prog 120 #[.int .u8 (x : Int), .pointer (some ⟨p, 0, none⟩)] w fun e w' => e = .returned (.tuple #[]) ∧ w'.heap[p]? = some (.cells #[.int .u32 (nib c x : Nat)] 102 (0, 0)) ∧ Upd [p] w w' := by
  have hc0 := blk_cell (i := 0) hp rfl
  have hf0 := blk_free (i := 0) hp
  simp only [List.getElem_toArray, List.getElem_cons_zero] at hc0
  have hcell := hst ((c ^^^ x) % 16) (Nat.mod_lt _ (by decide))
  have e1 : Go.bits .and .u32 (Go.bits .xor .u32 (c : Int) (x : Int)) 15 = (((c ^^^ x) % 16 : Nat) : Int) := by
    rw [u32_xor_nat _ _ hc (by omega), show (15 : Int) = ((15 : Nat) : Int) from rfl, u32_and_nat _ _ (xor_lt hc (by omega)) (by decide), nat_mask4]
  have e2 : (c ^^^ x) % 16 < 16 := Nat.mod_lt _ (by decide)
  have e3 : Go.bits .xor .u32 ((c : Int) / 16) ((tab.getD ((c ^^^ x) % 16) 0 : Nat) : Int) = ((nib c x : Nat) : Int) := by
    rw [show ((c : Int) / 16) = ((c / 16 : Nat) : Int) from by omega, u32_xor_nat _ _ (by omega) (tab_lt _)]
    rfl
  have HP := hide hp
  clear hst hp
  generalize hi : (c ^^^ x) % 16 = i at *
  generalize ht : tab.getD i 0 = t at *
  generalize hn : nib c x = n at *
  clear hi ht hn
  go_enter Tryz.func120, Tryz.ntmps120
  go_wp2_with fail
  go_region
  go_end0
  exact ⟨rfl, blk_set HP.out _, ((Upd.refl _ _).setCell (.inl (by simp)) _).drew⟩

set_option maxHeartbeats 1000000 in
theorem more_any {xo : Option Addr} {m cp s : Nat} {bs : List UInt8} (w : World) (hst : TabAt w) (hs : SrcAt w xo m cp (bs.map u8v) 1) (hm : m ≤ maxLen) (hsum : s < 4294967296) :
    Calls Tryz.prog 119 #[.int .u32 (s : Int), .slice xo m cp] w fun e w' => e = .returned (.int .u32 ((4294967295 ^^^ run (4294967295 ^^^ s) bs : Nat) : Int)) ∧ Upd [] w w' := by
  have hlen : bs.length = m := by have := hs.len; simpa using this
  have HL := hide hlen
  have HS := hide hs
  have HST := hide hst
  have hlt := hst.lt
  have e1 : Go.bits .xor .u32 IntKind.u32.max (s : Int) = ((4294967295 ^^^ s : Nat) : Int) := by
    rw [show IntKind.u32.max = ((4294967295 : Nat) : Int) from rfl, u32_xor_nat _ _ (by decide) hsum]
  have hc0 : 4294967295 ^^^ s < 4294967296 := xor_lt (by decide) hsum
  generalize 4294967295 ^^^ s = c0 at *
  unfold maxLen at hm
  clear hlen hs hst
  go_enter Tryz.func119, Tryz.ntmps119
  go_wp2_with fail
  have HB0 := hide (blk_new w (.cells #[.int .u32 (c0 : Int)] 102))
  go_loopw [14] (fun i wr => ∃ k : Nat, k ≤ m ∧ i = .int .i64 k ∧ Upd [] w wr ∧ wr.heap[w.heap.size]? = some (.cells #[.int .u32 (run c0 (bs.take k) : Nat)] 102 (0, 0))) (fun i _ => m - (intOf i).toNat)
  case atStart => exact ⟨0, by omega, rfl, (Upd.refl [] w).alloc _, HB0.out⟩
  case round =>
    obtain ⟨k, hk, rfl, hu, hb⟩ := hrel
    have HU := hide hu; have HB := hide hb
    have hc1 : run c0 (bs.take k) < 4294967296 := run_lt hc0 _
    generalize hr : run c0 (bs.take k) = c at *
    have HR := hide hr
    clear hu hb hr HB0
    by_cases hlt : k < m
    · obtain ⟨b, off, rfl, hcell⟩ := src_at (src_upd_nil HS.out HU.out) hlt
      generalize hx : bs.getD k 0 = x at *
      have HX := hide hx
      have hxl := x.toNat_lt
      have e2 : Go.bits .and .u8 (x.toNat : Int) 15 = ((x.toNat % 16 : Nat) : Int) := by
        rw [show (15 : Int) = ((15 : Nat) : Int) from rfl, u8_and_nat _ _ hxl (by decide), nat_mask4]
      have e3 : (x.toNat : Int) / 16 = ((x.toNat / 16 : Nat) : Int) := by omega
      have hd : decide ((k : Int) < m) = true := by simp; omega
      obtain ⟨y, hy⟩ : ∃ y, x.toNat / 16 = y := ⟨_, rfl⟩
      obtain ⟨z, hz⟩ : ∃ z, x.toNat % 16 = z := ⟨_, rfl⟩
      rw [hy] at e3
      rw [hz] at e2
      have hy16 : y < 16 := by omega
      have hz16 : z < 16 := by omega
      have HY := hide hy; have HZ := hide hz
      clear hx hy hz
      have hbl := src_lt HS.out (by omega)
      go_wp2_with fail
      refine (four_any (x := z) _ (HST.out.upd HU.out (by simp)) HB.out hc1 hz16).mono ?_
      rintro e w1 ⟨rfl, hb1, hu1⟩
      have HB1 := hide hb1; have HU1 := hide (HU.out.trans_new hu1 (by simp))
      clear hb1 hu1
      go_wp2_with fail
      refine (four_any (x := y) _ (HST.out.upd HU1.out (by simp)) HB1.out (nib_lt hc1 hz16) hy16).mono ?_
      rintro e w2 ⟨rfl, hb2, hu2⟩
      have HB2 := hide hb2; have HU2 := hide (HU1.out.trans_new hu2 (by simp))
      clear hb2 hu2
      go_wp2_with fail
      go_roundw
      case rel => exact ⟨k + 1, by omega, by go_num, HU2.out, by rw [take_snoc8 _ _ (by rw [HL.out]; exact hlt), run_snoc, HR.out, HX.out, byte, HY.out, HZ.out]; exact HB2.out⟩
      case measure => simp [intOf]; omega
    · have hd : decide ((k : Int) < m) = false := by simp; omega
      have e2 : Go.bits .xor .u32 IntKind.u32.max (c : Int) = ((4294967295 ^^^ c : Nat) : Int) := by
        rw [show IntKind.u32.max = ((4294967295 : Nat) : Int) from rfl, u32_xor_nat _ _ (by decide) hc1]
      have hcl := blk_cell (i := 0) HB.out rfl
      simp only [List.getElem_toArray, List.getElem_cons_zero] at hcl
      go_wp2_with fail
      go_ret
      have hrun : run c0 bs = c := by rw [← HR.out, List.take_of_length_le (by have := HL.out; omega)]
      rw [hrun]
      exact ⟨rfl, HU.out⟩
set_option maxHeartbeats 400000 in
theorem sum_any {xo : Option Addr} {m cp : Nat} {bs : List UInt8} (w : World) (hst : TabAt w) (hs : SrcAt w xo m cp (bs.map u8v) 1) (hm : m ≤ maxLen) :
    Calls Tryz.prog 117 #[.slice xo m cp] w fun e w' => e = .returned (.int .u32 (sum bs : Nat)) ∧ Upd [] w w' := by
  have H := hide (more_any (s := 0) w hst hs hm (by decide))
  clear hst hs
  go_enter Tryz.func117, Tryz.ntmps117
  go_wp2_with fail
  refine H.out.mono ?_
  rintro e w1 ⟨rfl, hu1⟩
  have HU := hide hu1
  clear hu1
  go_wp2_with fail
  go_ret
  exact ⟨rfl, HU.out⟩
end Go.Proofs.YtekbhfpdakhhkaaGreatDoor.Crc
