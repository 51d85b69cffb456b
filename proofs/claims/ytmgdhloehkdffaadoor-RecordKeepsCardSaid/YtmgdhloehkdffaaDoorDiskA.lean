/- Acts on a disk: Great, Does. -/
import Derived.Test.YtmgdhloehkdffaaDoorDiskT
namespace Go.Proofs.YtmgdhloehkdffaaDoor.DiskW
open Go.RowKit
def _root_.Go.Proofs.YtmgdhloehkdffaaDoor.DS.does (d : DS) (k : Nat) (n : Int) (bs : List UInt8) : DS × Int := if k % 7 = 5 then d.turn n else d.act k n bs

/-- What the argument holds. -/
structure ActAt (w : World) (b off : Nat) (i : Nat) (do_ : Nat) (n : Int) (bo : Option Addr) (bl bc : Nat) (bs : List UInt8) : Prop where
  c0 : w.cell? ⟨b, off + i * 3, none⟩ = some (.int .u8 do_)
  c1 : w.cell? ⟨b, off + i * 3 + 1, none⟩ = some (.int .i64 n)
  c2 : w.cell? ⟨b, off + i * 3 + 2, none⟩ = some (.slice bo bl bc)
  lo : do_ < 256
  hi : n ≤ 9223372036854775807
  src : SrcAt w bo bl bc (bs.map u8v) 1
  cap : bl ≤ bc
  max : bc ≤ maxLen
  low : -9223372036854775808 ≤ n
def Acts (w : World) (ao : Option Addr) (len : Nat) (dos : Nat → Nat) (ns : Nat → Int) (bos : Nat → Option Addr) (bls bcs : Nat → Nat) (bss : Nat → List UInt8) : Prop :=
  ∀ i, i < len → ∃ b off, ao = some ⟨b, off, none⟩ ∧ ActAt w b off i (dos i) (ns i) (bos i) (bls i) (bcs i) (bss i)

def GreatSays (len : Nat) (bls : Nat → Nat) (e : Ending) : Prop := ∃ r, e = .returned (.bool r) ∧ (r = false → len ≤ 200 ∧ ∀ i, i < len → bls i ≤ 10000)
set_option maxHeartbeats 400000 in
theorem great_any {ao : Option Addr} {len cap : Nat} {dos : Nat → Nat} {ns : Nat → Int} {bos : Nat → Option Addr} {bls bcs : Nat → Nat} {bss : Nat → List UInt8} (w : World) (hlen : len ≤ maxLen) (h : Acts w ao len dos ns bos bls bcs bss) :
    Calls Tryd.prog 27 #[.slice ao len cap] w fun e w' => w = w' ∧ GreatSays len bls e := by
  have H := hide h
  clear h
  simp only [maxLen] at hlen
  by_cases h2 : 200 < len
  · have hd : decide ((200 : Int) < len) = true := by simp; omega
    go_enter Tryd.func27, Tryd.ntmps27
    go_wp2_with fail
    go_ret
    exact ⟨rfl, true, rfl, by simp⟩
  · have hd : decide ((200 : Int) < len) = false := by simp; omega
    go_enter Tryd.func27, Tryd.ntmps27
    go_wp2_with fail
    go_loop [3, 4] (fun sl si => ∃ (k l : Nat), k ≤ len ∧ si = .int .i64 k ∧ sl = .int .i64 l ∧ l ≤ 10000 ∧ ∀ i, i < k → bls i ≤ 10000) (fun _ si => len - (intOf si).toNat)
    case atStart => exact ⟨0, 10000, by omega, rfl, rfl, by omega, fun i hi => by omega⟩
    case round =>
      obtain ⟨k, l, hk, rfl, rfl, hl, hall⟩ := hrel
      have HA := hide hall
      clear hall
      by_cases hlt : k < len
      · obtain ⟨b, off, rfl, hact⟩ := H.out k hlt
        have hc2 := hact.c2
        have hb1 := hact.cap
        have hb2 := hact.max
        simp only [maxLen] at hb2
        clear hact
        by_cases hle : bls k ≤ l
        · have hd3 : decide ((l : Int) < bls k) = false := by simp; omega
          have hd4 : decide (l < bls k) = false := by simp; omega
          go_wp2_with fail
          go_round
          case rel => exact ⟨k + 1, l - bls k, by omega, by go_num, by go_num, by omega, fun i hi => by
            by_cases h : i = k
            · subst h; omega
            · exact HA.out i (by omega)⟩
          case measure => simp [intOf]; omega
        · have hd3 : decide ((l : Int) < bls k) = true := by simp; omega
          have hd4 : decide (l < bls k) = true := by simp; omega
          go_wp2_with fail
          go_ret
          exact ⟨rfl, true, rfl, by simp⟩
      · have hd3 : decide ((k : Int) < len) = false := by simp; omega
        go_wp2_with fail
        go_ret
        exact ⟨rfl, false, rfl, fun _ => ⟨by omega, fun i hi => HA.out i (by omega)⟩⟩
set_option maxHeartbeats 1000000 in
theorem does_any {D base : Nat} {bv : Value} {d : DS} {k : Nat} {n : Int} {bo : Option Addr} {bl bc : Nat} {bs : List UInt8} (w : World) (h : DiskAt w D base bv d) (hD : base ≤ D) (hb : base ≤ w.heap.size) (hs : SrcAt w bo bl bc (bs.map u8v) 1) (hbc : bl ≤ bc) (hB : bl ≤ 1000000000000) (hok : d.Ok 1000000000000)
    (hk : k < 256) (hlo : -9223372036854775808 ≤ n) (hhi : n ≤ 9223372036854775807) :
    Calls Tryd.prog 28 #[.pointer (some ⟨D, 0, none⟩), .agg #[.int .u8 k, .int .i64 n, .slice bo bl bc]] w fun e w' => Done w D base (d.does k n bs) e w' := by
  have H := hide h
  have HS := hide hs
  have HO := hide hok
  clear h hs hok
  have hc : k % 7 = 0 ∨ k % 7 = 1 ∨ k % 7 = 2 ∨ k % 7 = 3 ∨ k % 7 = 4 ∨ k % 7 = 6 ∨ k % 7 = 5 := by omega
  rcases hc with h7 | h7 | h7 | h7 | h7 | h7 | h7
  · have q0 : ((k : Int) % 7 == 0) = true := by simp; omega
    have e7 := hide (show d.does k n bs = d.append bs by simp [DS.does, DS.act, h7])
    clear h7
    go_enter Tryd.func28, Tryd.ntmps28
    go_wp2_with fail
    refine (append_any _ (H.out.allocs _) hD (by simp; omega) (src_allocs HS.out _) hbc hB HO.out).mono ?_
    rintro e w' ⟨v, rfl, rfl, h1⟩
    have H1 := hide h1
    clear h1
    go_wp2_with fail
    go_ret
    rw [e7.out]
    exact Done.pre ⟨_, rfl, rfl, H1.out⟩ ((Upd.refl [] _).alloc _) (blk_lt H.out.hD) hb
  · have q0 : ((k : Int) % 7 == 0) = false := by simp; omega
    have q1 : ((k : Int) % 7 == 1) = true := by simp; omega
    have e7 := hide (show d.does k n bs = d.sync by simp [DS.does, DS.act, h7])
    clear h7
    go_enter Tryd.func28, Tryd.ntmps28
    go_wp2_with fail
    refine (sync_any _ (H.out.allocs _) hD (by simp; omega)).mono ?_
    rintro e w' ⟨v, rfl, rfl, h1⟩
    have H1 := hide h1
    clear h1
    go_wp2_with fail
    go_ret
    rw [e7.out]
    exact Done.pre ⟨_, rfl, rfl, H1.out⟩ ((Upd.refl [] _).alloc _) (blk_lt H.out.hD) hb
  · have q0 : ((k : Int) % 7 == 0) = false := by simp; omega
    have q1 : ((k : Int) % 7 == 1) = false := by simp; omega
    have q2 : ((k : Int) % 7 == 2) = true := by simp; omega
    have e7 := hide (show d.does k n bs = d.cut n by simp [DS.does, DS.act, h7])
    clear h7
    go_enter Tryd.func28, Tryd.ntmps28
    go_wp2_with fail
    refine (cut_any _ (H.out.allocs _) hD (by simp; omega)).mono ?_
    rintro e w' ⟨v, rfl, rfl, h1⟩
    have H1 := hide h1
    clear h1
    go_wp2_with fail
    go_ret
    rw [e7.out]
    exact Done.pre ⟨_, rfl, rfl, H1.out⟩ ((Upd.refl [] _).alloc _) (blk_lt H.out.hD) hb
  · have q0 : ((k : Int) % 7 == 0) = false := by simp; omega
    have q1 : ((k : Int) % 7 == 1) = false := by simp; omega
    have q2 : ((k : Int) % 7 == 2) = false := by simp; omega
    have q3 : ((k : Int) % 7 == 3) = true := by simp; omega
    have e7 := hide (show d.does k n bs = d.setFuse n by simp [DS.does, DS.act, h7])
    clear h7
    go_enter Tryd.func28, Tryd.ntmps28
    go_wp2_with fail
    refine (fuse_any _ (H.out.allocs _) hD (by simp; omega)).mono ?_
    rintro e w' ⟨v, rfl, rfl, h1⟩
    have H1 := hide h1
    clear h1
    go_wp2_with fail
    go_ret
    rw [e7.out]
    exact Done.pre ⟨_, rfl, rfl, H1.out⟩ ((Upd.refl [] _).alloc _) (blk_lt H.out.hD) hb
  · have q0 : ((k : Int) % 7 == 0) = false := by simp; omega
    have q1 : ((k : Int) % 7 == 1) = false := by simp; omega
    have q2 : ((k : Int) % 7 == 2) = false := by simp; omega
    have q3 : ((k : Int) % 7 == 3) = false := by simp; omega
    have q4 : ((k : Int) % 7 == 4) = true := by simp; omega
    have e7 := hide (show d.does k n bs = d.crash n by simp [DS.does, DS.act, h7])
    clear h7
    go_enter Tryd.func28, Tryd.ntmps28
    go_wp2_with fail
    refine (crash_any _ (H.out.allocs _) HO.out hD (by simp; omega)).mono ?_
    rintro e w' ⟨v, rfl, rfl, h1⟩
    have H1 := hide h1
    clear h1
    go_wp2_with fail
    go_ret
    rw [e7.out]
    exact Done.pre ⟨_, rfl, rfl, H1.out⟩ ((Upd.refl [] _).alloc _) (blk_lt H.out.hD) hb
  · have q0 : ((k : Int) % 7 == 0) = false := by simp; omega
    have q1 : ((k : Int) % 7 == 1) = false := by simp; omega
    have q2 : ((k : Int) % 7 == 2) = false := by simp; omega
    have q3 : ((k : Int) % 7 == 3) = false := by simp; omega
    have q4 : ((k : Int) % 7 == 4) = false := by simp; omega
    have q5 : ((k : Int) % 7 == 5) = false := by simp; omega
    have q6 : ((k : Int) % 7 == 6) = true := by simp; omega
    have e7 := hide (show d.does k n bs = d.restart by simp [DS.does, DS.act, h7])
    clear h7
    go_enter Tryd.func28, Tryd.ntmps28
    go_wp2_with fail
    refine (restart_any _ (H.out.allocs _) hD (by simp; omega)).mono ?_
    rintro e w' ⟨v, rfl, rfl, h1⟩
    have H1 := hide h1
    clear h1
    go_wp2_with fail
    go_ret
    rw [e7.out]
    exact Done.pre ⟨_, rfl, rfl, H1.out⟩ ((Upd.refl [] _).alloc _) (blk_lt H.out.hD) hb
  · have q0 : ((k : Int) % 7 == 0) = false := by simp; omega
    have q1 : ((k : Int) % 7 == 1) = false := by simp; omega
    have q2 : ((k : Int) % 7 == 2) = false := by simp; omega
    have q3 : ((k : Int) % 7 == 3) = false := by simp; omega
    have q4 : ((k : Int) % 7 == 4) = false := by simp; omega
    have q5 : ((k : Int) % 7 == 5) = true := by simp; omega
    have e7 := hide (show d.does k n bs = d.turn n by simp [DS.does, h7])
    clear h7
    go_enter Tryd.func28, Tryd.ntmps28
    go_wp2_with fail
    refine (turn_any _ (H.out.allocs _) hD (by simp; omega) HO.out.len hlo hhi).mono ?_
    rintro e w' ⟨v, rfl, rfl, h1⟩
    have H1 := hide h1
    clear h1
    go_wp2_with fail
    go_ret
    rw [e7.out]
    exact Done.pre ⟨_, rfl, rfl, H1.out⟩ ((Upd.refl [] _).alloc _) (blk_lt H.out.hD) hb
theorem src_new {W : World} {C : Array Value} {t : TypeId} {fr : Nat × Nat} {c : Nat} (bs : List UInt8) (hC : C.toList = bs.map u8v) (n : Nat) (hn : bs.length = n) :
    SrcAt (W.alloc (.cells C t fr)) (some ⟨W.heap.size, 0, none⟩) n c (bs.map u8v) 1 := by
  subst hn
  refine ⟨by simp, by simp [u8v, Value.oneCell'], by simp, fun a e j u hj => ?_⟩
  cases e
  have hplain : (⟨W.heap.size, 0, none⟩ : Addr).add j = ⟨W.heap.size, j, none⟩ := by unfold Addr.add; split <;> simp_all
  rw [hplain, World.cell?_alloc_mark]
  rw [← hC] at hj
  simpa using hj
end Go.Proofs.YtmgdhloehkdffaaDoor.DiskW
