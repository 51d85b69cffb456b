/- The law's helpers: bytes as strings, Great, Does, wakes. -/
import Derived.Test.YtmgdhloehkdffaaDiskW6
import Derived.Laws.BytesArg
import Derived.Laws.IdiomStrings
import Derived.Lib.SlBytesConst
namespace Go.Proofs.Ytmgdhloehkdffaa.DiskW
open Go.RowKit

def strOf (bs : List UInt8) : ByteArray := ⟨bs.toArray⟩
theorem strOf_nums (bs : List UInt8) : strOfNums (bs.map fun b => (b.toNat : Int)) = strOf bs := by
  have h : (strOfNums (bs.map fun b => (b.toNat : Int))).data.toList = (strOf bs).data.toList := by
    rw [strOfNums_data, List.map_map]
    simp [strOf, Function.comp_def]
  exact ByteArray.ext (Array.toList_inj.1 h)
theorem run_str_src {w : World} {bo : Option Addr} {bl bc : Nat} {bs : List UInt8} (h : SrcAt w bo bl bc (bs.map u8v) 1) (_ : True) :
    (convert 39 9 (.slice bo bl bc)).run Try.prog w = .ok (.string (strOf bs)) w := by
  have hlen := h.len
  simp at hlen
  cases bo with
  | none =>
    have h1 := (h.nil rfl).1
    have : bs = [] := by cases bs with
      | nil => rfl
      | cons x xs => simp at hlen; omega
    subst this
    exact run_convert_bytes_nil (P := Try.prog) w 39 5 Try.underlying39 Try.underlying5 bl bc 9 Try.underlying9
  | some a =>
    have hl : (loadCells a bl).run Try.prog w = .ok ((bs.map fun b => (b.toNat : Int)).map (Value.int .u8)).toArray w := by
      have := run_loadCells_list (P := Try.prog) w a (bs.map u8v) (h.cells _ rfl)
      rw [List.length_map, hlen] at this
      rw [this, List.map_map]
      rfl
    rw [run_convert_bytes_string w 39 9 5 _ bl bc Try.underlying39 Try.underlying5 Try.underlying9, run_bytesToString w _ bl bc _ hl, foldl_push_bytes, ← strOf_nums]
    simp [strOfNums, ByteArray.empty, ByteArray.emptyWithCapacity]
    rfl
theorem run_str_own {w : World} {base n : Nat} {v : Value} {bs : List UInt8} (h : w.ownsRow base 5 1 v n (bs.map u8v)) :
    (convert 39 9 v).run Try.prog w = .ok (.string (strOf bs)) w := by
  obtain ⟨ao, cap, rfl, -, -, h3⟩ := owns_slice h
  exact run_str_src (src_of_owns h (by simp [u8v, Value.oneCell'])) trivial

/-- What the argument holds. -/
structure ActAt (w : World) (b off : Nat) (i : Nat) (do_ : Nat) (n : Int) (bo : Option Addr) (bl bc : Nat) (bs : List UInt8) : Prop where
  c0 : w.cell? ⟨b, off + i * 3, none⟩ = some (.int .u8 do_)
  c1 : w.cell? ⟨b, off + i * 3 + 1, none⟩ = some (.int .i64 n)
  c2 : w.cell? ⟨b, off + i * 3 + 2, none⟩ = some (.slice bo bl bc)
  lo : do_ < 256
  hi : n ≤ 9223372036854775807
  src : SrcAt w bo bl bc (bs.map u8v) 1
  cap : bl ≤ bc
  max : bc ≤ maxLen
  spot : True
def Acts (w : World) (ao : Option Addr) (len : Nat) (dos : Nat → Nat) (ns : Nat → Int) (bos : Nat → Option Addr) (bls bcs : Nat → Nat) (bss : Nat → List UInt8) : Prop :=
  ∀ i, i < len → ∃ b off, ao = some ⟨b, off, none⟩ ∧ ActAt w b off i (dos i) (ns i) (bos i) (bls i) (bcs i) (bss i)

def GreatSays (len : Nat) (bls : Nat → Nat) (e : Ending) : Prop := ∃ r, e = .returned (.bool r) ∧ (r = false → len ≤ 200 ∧ ∀ i, i < len → bls i ≤ 10000)
set_option maxHeartbeats 400000 in
theorem great_any {ao : Option Addr} {len cap : Nat} {dos : Nat → Nat} {ns : Nat → Int} {bos : Nat → Option Addr} {bls bcs : Nat → Nat} {bss : Nat → List UInt8} (w : World) (hlen : len ≤ maxLen) (h : Acts w ao len dos ns bos bls bcs bss) :
    Calls Try.prog 19 #[.slice ao len cap] w fun e w' => w = w' ∧ GreatSays len bls e := by
  have H := hide h
  clear h
  simp only [maxLen] at hlen
  by_cases h2 : 200 < len
  · have hd : decide ((200 : Int) < len) = true := by simp; omega
    go_enter Try.func19, Try.ntmps19
    go_wp2_with fail
    go_ret
    exact ⟨rfl, true, rfl, by simp⟩
  · have hd : decide ((200 : Int) < len) = false := by simp; omega
    go_enter Try.func19, Try.ntmps19
    go_wp2_with fail
    go_loop [3, 4] (fun sl si => ∃ (k l : Nat), k ≤ len ∧ si = .int .i64 k ∧ sl = .int .i64 l ∧ l ≤ 10000 ∧ ∀ i, i < k → bls i ≤ 10000) (fun _ si => len - (intOf si).toNat)
    case atStart => exact ⟨0, 10000, by omega, rfl, rfl, by omega, fun i hi => by omega⟩
    case round =>
      obtain ⟨k, l, hk, rfl, rfl, hl, hall⟩ := hrel
      have HA := hide hall
      clear hall
      by_cases hlt : k < len
      · obtain ⟨b, off, rfl, hact⟩ := H.out k hlt
        have hc2 := hact.c2
        have hb1 := hact.cap
        have hb2 := hact.max
        simp only [maxLen] at hb2
        clear hact
        by_cases hle : bls k ≤ l
        · have hd3 : decide ((l : Int) < bls k) = false := by simp; omega
          have hd4 : decide (l < bls k) = false := by simp; omega
          go_wp2_with fail
          go_round
          case rel => exact ⟨k + 1, l - bls k, by omega, by go_num, by go_num, by omega, fun i hi => by
            by_cases h : i = k
            · subst h; omega
            · exact HA.out i (by omega)⟩
          case measure => simp [intOf]; omega
        · have hd3 : decide ((l : Int) < bls k) = true := by simp; omega
          have hd4 : decide (l < bls k) = true := by simp; omega
          go_wp2_with fail
          go_ret
          exact ⟨rfl, true, rfl, by simp⟩
      · have hd3 : decide ((k : Int) < len) = false := by simp; omega
        go_wp2_with fail
        go_ret
        exact ⟨rfl, false, rfl, fun _ => ⟨by omega, fun i hi => HA.out i (by omega)⟩⟩
set_option maxHeartbeats 1000000 in
theorem does_any {D base : Nat} {bv : Value} {d : DS} {k : Nat} {n : Int} {bo : Option Addr} {bl bc : Nat} {bs : List UInt8} (w : World) (h : DiskAt w D base bv d) (hD : base ≤ D) (hb : base ≤ w.heap.size) (hs : SrcAt w bo bl bc (bs.map u8v) 1) (hbc : bl ≤ bc) (hB : bl ≤ 1000000000000) (hok : d.Ok 1000000000000)
    (hk : k < 256) (h5 : k % 7 ≠ 5) :
    Calls Try.prog 24 #[.pointer (some ⟨D, 0, none⟩), .agg #[.int .u8 k, .int .i64 n, .slice bo bl bc]] w fun e w' => Done w D base (d.act k n bs) e w' := by
  have H := hide h
  have HS := hide hs
  have HO := hide hok
  clear h hs hok
  have hc : k % 7 = 0 ∨ k % 7 = 1 ∨ k % 7 = 2 ∨ k % 7 = 3 ∨ k % 7 = 4 ∨ k % 7 = 6 := by omega
  rcases hc with h7 | h7 | h7 | h7 | h7 | h7
  · have q0 : ((k : Int) % 7 == 0) = true := by simp; omega
    have e7 := hide (show d.act k n bs = d.append bs by simp only [DS.act, h7])
    clear h7 h5
    go_enter Try.func24, Try.ntmps24
    go_wp2_with fail
    refine (append_any _ (H.out.allocs _) hD (by simp; omega) (src_allocs HS.out _) hbc hB HO.out).mono ?_
    rintro e w' ⟨v, rfl, rfl, h1⟩
    have H1 := hide h1
    clear h1
    go_wp2_with fail
    go_ret
    rw [e7.out]
    exact Done.pre ⟨_, rfl, rfl, H1.out⟩ (below_alloc hb _)
  · have q0 : ((k : Int) % 7 == 0) = false := by simp; omega
    have q1 : ((k : Int) % 7 == 1) = true := by simp; omega
    have e7 := hide (show d.act k n bs = d.sync by simp only [DS.act, h7])
    clear h7 h5
    go_enter Try.func24, Try.ntmps24
    go_wp2_with fail
    refine (sync_any _ (H.out.allocs _) hD (by simp; omega)).mono ?_
    rintro e w' ⟨v, rfl, rfl, h1⟩
    have H1 := hide h1
    clear h1
    go_wp2_with fail
    go_ret
    rw [e7.out]
    exact Done.pre ⟨_, rfl, rfl, H1.out⟩ (below_alloc hb _)
  · have q0 : ((k : Int) % 7 == 0) = false := by simp; omega
    have q1 : ((k : Int) % 7 == 1) = false := by simp; omega
    have q2 : ((k : Int) % 7 == 2) = true := by simp; omega
    have e7 := hide (show d.act k n bs = d.cut n by simp only [DS.act, h7])
    clear h7 h5
    go_enter Try.func24, Try.ntmps24
    go_wp2_with fail
    refine (cut_any _ (H.out.allocs _) hD (by simp; omega)).mono ?_
    rintro e w' ⟨v, rfl, rfl, h1⟩
    have H1 := hide h1
    clear h1
    go_wp2_with fail
    go_ret
    rw [e7.out]
    exact Done.pre ⟨_, rfl, rfl, H1.out⟩ (below_alloc hb _)
  · have q0 : ((k : Int) % 7 == 0) = false := by simp; omega
    have q1 : ((k : Int) % 7 == 1) = false := by simp; omega
    have q2 : ((k : Int) % 7 == 2) = false := by simp; omega
    have q3 : ((k : Int) % 7 == 3) = true := by simp; omega
    have e7 := hide (show d.act k n bs = d.setFuse n by simp only [DS.act, h7])
    clear h7 h5
    go_enter Try.func24, Try.ntmps24
    go_wp2_with fail
    refine (fuse_any _ (H.out.allocs _) hD (by simp; omega)).mono ?_
    rintro e w' ⟨v, rfl, rfl, h1⟩
    have H1 := hide h1
    clear h1
    go_wp2_with fail
    go_ret
    rw [e7.out]
    exact Done.pre ⟨_, rfl, rfl, H1.out⟩ (below_alloc hb _)
  · have q0 : ((k : Int) % 7 == 0) = false := by simp; omega
    have q1 : ((k : Int) % 7 == 1) = false := by simp; omega
    have q2 : ((k : Int) % 7 == 2) = false := by simp; omega
    have q3 : ((k : Int) % 7 == 3) = false := by simp; omega
    have q4 : ((k : Int) % 7 == 4) = true := by simp; omega
    have e7 := hide (show d.act k n bs = d.crash n by simp only [DS.act, h7])
    clear h7 h5
    go_enter Try.func24, Try.ntmps24
    go_wp2_with fail
    refine (crash_any _ (H.out.allocs _) HO.out hD (by simp; omega)).mono ?_
    rintro e w' ⟨v, rfl, rfl, h1⟩
    have H1 := hide h1
    clear h1
    go_wp2_with fail
    go_ret
    rw [e7.out]
    exact Done.pre ⟨_, rfl, rfl, H1.out⟩ (below_alloc hb _)
  · have q0 : ((k : Int) % 7 == 0) = false := by simp; omega
    have q1 : ((k : Int) % 7 == 1) = false := by simp; omega
    have q2 : ((k : Int) % 7 == 2) = false := by simp; omega
    have q3 : ((k : Int) % 7 == 3) = false := by simp; omega
    have q4 : ((k : Int) % 7 == 4) = false := by simp; omega
    have q5 : ((k : Int) % 7 == 5) = false := by simp; omega
    have q6 : ((k : Int) % 7 == 6) = true := by simp; omega
    have e7 := hide (show d.act k n bs = d.restart by simp only [DS.act, h7])
    clear h7 h5
    go_enter Try.func24, Try.ntmps24
    go_wp2_with fail
    refine (restart_any _ (H.out.allocs _) hD (by simp; omega)).mono ?_
    rintro e w' ⟨v, rfl, rfl, h1⟩
    have H1 := hide h1
    clear h1
    go_wp2_with fail
    go_ret
    rw [e7.out]
    exact Done.pre ⟨_, rfl, rfl, H1.out⟩ (below_alloc hb _)
theorem src_new {W : World} {C : Array Value} {t : TypeId} {fr : Nat × Nat} {c : Nat} (bs : List UInt8) (hC : C.toList = bs.map u8v) (n : Nat) (hn : bs.length = n) :
    SrcAt (W.alloc (.cells C t fr)) (some ⟨W.heap.size, 0, none⟩) n c (bs.map u8v) 1 := by
  subst hn
  refine ⟨by simp, by simp [u8v, Value.oneCell'], by simp, fun a e j u hj => ?_⟩
  cases e
  have hplain : (⟨W.heap.size, 0, none⟩ : Addr).add j = ⟨W.heap.size, j, none⟩ := by unfold Addr.add; split <;> simp_all
  rw [hplain, World.cell?_alloc_mark]
  rw [← hC] at hj
  simpa using hj
theorem app0 : DS.append ⟨[], 0, false, -1⟩ [97, 98] = (⟨[97, 98], 0, false, -1⟩, 0) := by simp [DS.append]
theorem syn0 : DS.sync ⟨[97, 98], 0, false, -1⟩ = (⟨[97, 98], 2, false, -1⟩, 0) := by simp [DS.sync]
theorem app1 : DS.append ⟨[97, 98], 2, false, -1⟩ [99, 100] = (⟨[97, 98, 99, 100], 2, false, -1⟩, 0) := by simp [DS.append]
theorem cra0 : DS.crash ⟨[97, 98, 99, 100], 2, false, -1⟩ 1 = (⟨[97, 98, 99], 2, true, -1⟩, 0) := by simp [DS.crash]
theorem syn1 : DS.sync ⟨[97, 98, 99], 2, true, -1⟩ = (⟨[97, 98, 99], 2, true, -1⟩, 20) := by simp [DS.sync]
set_option maxHeartbeats 1000000 in
theorem wakes_any (w : World) : Calls Try.prog 20 #[] w fun e w' => e = .returned (.bool true) ∧ Upd [] w w' := by
  have kc := fun (w : World) (C : Array Value) (n c : Nat) => Lib.run_convert_bytes_const (P := Try.prog) w 39 5 C n c Try.underlying39 Try.underlying5
  go_enter Try.func20, Try.ntmps20
  go_wp2_with fail
  refine (new_any _).mono ?_
  rintro e w1 ⟨v, rfl, rfl, h1, hu1⟩
  have H1 := hide h1; have U1 := hide hu1.below_nil
  have hs1 := hu1.size
  clear h1 hu1
  go_wp2_with fail
  have H1' := hide (H1.out.upd (S := []) (w' := w1.alloc (.cells #[.int .u8 97, .int .u8 98] 5 (2, 3))) ((Upd.refl [] _).alloc _) (by simp) (fun _ _ => by simp))
  refine (append_any (bs := [97, 98]) _ H1'.out (Nat.le_refl _) (by simp; omega) (src_new [97, 98] rfl 2 rfl) (by omega) (by omega) ⟨by simp, by simp, by simp, by simp⟩).mono ?_
  rw [app0]
  rintro e w2 ⟨v, rfl, rfl, bv2, h2, hb2⟩
  have H2 := hide h2; have U2 := hide ((U1.out.trans (below_alloc hs1 _)).trans hb2)
  have hs2 : w.heap.size ≤ w2.heap.size := U2.out.size
  clear h2 hb2 H1 H1' U1 hs1
  go_wp2_with fail
  refine (sync_any _ H2.out (Nat.le_refl _) hs2).mono ?_
  rw [syn0]
  rintro e w3 ⟨v, rfl, rfl, bv3, h3, hb3⟩
  have H3 := hide h3; have U3 := hide (U2.out.trans hb3)
  have hs3 : w.heap.size ≤ w3.heap.size := U3.out.size
  clear h3 hb3 H2 U2 hs2
  go_wp2_with fail
  have H3' := hide (H3.out.upd (S := []) (w' := w3.alloc (.cells #[.int .u8 99, .int .u8 100] 5 (2, 3))) ((Upd.refl [] _).alloc _) (by simp) (fun _ _ => by simp))
  refine (append_any (bs := [99, 100]) _ H3'.out (Nat.le_refl _) (by simp; omega) (src_new [99, 100] rfl 2 rfl) (by omega) (by omega) ⟨by simp, by simp, by simp, by simp⟩).mono ?_
  rw [app1]
  rintro e w4 ⟨v, rfl, rfl, bv4, h4, hb4⟩
  have H4 := hide h4; have U4 := hide ((U3.out.trans (below_alloc hs3 _)).trans hb4)
  have hs4 : w.heap.size ≤ w4.heap.size := U4.out.size
  clear h4 hb4 H3 H3' U3 hs3
  go_wp2_with fail
  refine (crash_any _ H4.out ⟨by simp, by simp, by simp, by simp⟩ (Nat.le_refl _) hs4).mono ?_
  rw [cra0]
  rintro e w5 ⟨v, rfl, rfl, bv5, h5, hb5⟩
  have H5 := hide h5; have U5 := hide (U4.out.trans hb5)
  have hs5 : w.heap.size ≤ w5.heap.size := U5.out.size
  clear h5 hb5 H4 U4 hs4
  go_wp2_with fail
  refine (bytes_any _ H5.out hs5 (by simp)).mono ?_
  rintro e w6 ⟨v, rfl, ho6, hu6⟩
  have hstr := run_str_own (bs := [97, 98, 99]) ho6
  have H6 := hide (H5.out.upd hu6 (by simp) (fun _ _ => by simp)); have U6 := hide (U5.out.trans (hu6.below (by simp) hs5))
  have hs6 : w.heap.size ≤ w6.heap.size := U6.out.size
  clear ho6 hu6 H5 U5 hs5
  have hq : ((strOf [97, 98, 99]).toList == [97, 98, 99]) = true := by kernel_rfl
  go_wp2_with fail
  refine (synced_any _ H6.out).mono ?_
  rintro e w7 ⟨rfl, rfl⟩
  go_wp2_with fail
  refine (dead_any _ H6.out).mono ?_
  rintro e w7 ⟨rfl, rfl⟩
  go_wp2_with fail
  refine (sync_any _ H6.out (Nat.le_refl _) hs6).mono ?_
  rw [syn1]
  rintro e w8 ⟨v8, rfl, rfl, bv8, h8, hb8⟩
  have U8 := hide (U6.out.trans hb8)
  clear h8 hb8 H6 U6 hs6
  go_wp2_with fail
  go_ret
  exact ⟨rfl, Upd.of_below U8.out _⟩
end Go.Proofs.Ytmgdhloehkdffaa.DiskW
