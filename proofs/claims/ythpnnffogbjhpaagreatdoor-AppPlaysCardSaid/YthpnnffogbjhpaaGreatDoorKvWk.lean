/- quoratelaw11.wakes. -/
import Derived.Test.YthpnnffogbjhpaaGreatDoorApSm
import Derived.Test.YthpnnffogbjhpaaGreatDoorKvGH
import Derived.Test.YthpnnffogbjhpaaGreatDoorKvEE
set_option linter.unusedSimpArgs false
set_option linter.unusedVariables false
set_option linter.unnecessarySimpa false
namespace Go.Proofs.YthpnnffogbjhpaaGreatDoor.Kv
open Go.RowKit Go.Lib Go.Proofs.YthpnnffogbjhpaaGreatDoor.Crc Go.Proofs.YthpnnffogbjhpaaGreatDoor.Cm

def wk1 : Cm := ⟨1, 1, 4, [[97]], [], [], 1⟩
def wk2 : Cm := ⟨1, 2, 4, [[97]], [], [], 1⟩
def wk3 : Cm := ⟨1, 1, 2, [[97]], [], [], 0⟩
def wa1 : Ap := ⟨[([97], [49])], [(1, ⟨1, ⟨0, [49]⟩⟩)], 1⟩
def wa2 : Ap := ⟨[([97], [50])], [(1, ⟨2, ⟨0, [50]⟩⟩)], 2⟩
theorem wdo1 : apDo ap0 wk1 = (wa1, ⟨0, [49]⟩, true) := by kernel_rfl
theorem wdo2 : apDo wa1 wk1 = (wa1, ⟨0, [49]⟩, false) := by kernel_rfl
theorem wdo3 : apDo wa1 wk2 = (wa2, ⟨0, [50]⟩, true) := by kernel_rfl
theorem wdo4 : apDo wa2 wk3 = (wa2, ⟨3, []⟩, false) := by kernel_rfl
theorem wok1 : ApOk wa1 1 := by
  have := ApOk.zero.next (c := wk1) (by decide) (by decide) (by decide)
  rwa [wdo1] at this
theorem wok2 : ApOk wa2 2 := by
  have := wok1.next (c := wk2) (by decide) (by decide) (by decide)
  rwa [wdo3] at this
theorem wfit1 : wk1.Fits := fits_small (by decide) (by decide) (by decide) (by decide) (by decide) (by decide) (by decide) (by decide)
theorem wfit2 : wk2.Fits := fits_small (by decide) (by decide) (by decide) (by decide) (by decide) (by decide) (by decide) (by decide)
theorem wfit3 : wk3.Fits := fits_small (by decide) (by decide) (by decide) (by decide) (by decide) (by decide) (by decide) (by decide)
theorem rp49 : rpv ⟨0, [49]⟩ = .agg #[.int .u8 0, .string ⟨#[49]⟩] := rfl
theorem rp50 : rpv ⟨0, [50]⟩ = .agg #[.int .u8 0, .string ⟨#[50]⟩] := rfl
theorem rp3 : rpv ⟨3, []⟩ = .agg #[.int .u8 3, .string ⟨#[]⟩] := rfl
theorem eql49 (w : World) : (binOp .eql 39 (.agg #[.int .u8 0, .string ⟨#[49]⟩]) (.agg #[.int .u8 0, .string ⟨#[49]⟩])).run Tryz.prog w = .ok (.bool true) w := eql_rp ⟨0, [49]⟩ ⟨0, [49]⟩ w
theorem eql50 (w : World) : (binOp .eql 39 (.agg #[.int .u8 0, .string ⟨#[50]⟩]) (.agg #[.int .u8 0, .string ⟨#[50]⟩])).run Tryz.prog w = .ok (.bool true) w := eql_rp ⟨0, [50]⟩ ⟨0, [50]⟩ w
theorem eql3 (w : World) : (binOp .eql 39 (.agg #[.int .u8 3, .string ⟨#[]⟩]) (.agg #[.int .u8 3, .string ⟨#[]⟩])).run Tryz.prog w = .ok (.bool true) w := eql_rp ⟨3, []⟩ ⟨3, []⟩ w
theorem wstep {c : Cm} {a b : Ap} {r : Rp} {f : Bool} {T : Nat → Prop} {v : Value} {lo hi p i : Nat} (hd : apDo a c = (b, r, f)) (w : World) (he : EnvAt w) (h : ApIs w lo hi p a) (ho : ApOk a i) (hi4 : i ≤ 10000) (hc : CmAt w T v c) :
    Calls Tryz.prog 13 #[.pointer (some ⟨p, 0, none⟩), v] w fun e w' => e = .returned (.tuple #[rpv r, .bool f]) ∧ ApIs w' lo hi p b ∧ Turned lo hi w w' := by
  have := ado_any w he h ho hi4 hc
  rw [hd] at this
  exact this
abbrev wcells (k : Nat) (n : Int) : Array Value := #[.int .u32 1, .int .u32 n, .int .u8 4, .slice (some ⟨k, 0, none⟩) 1 1, .string ⟨#[]⟩, .string ⟨#[]⟩, .int .i64 1]
theorem wcell {w : World} {b k : Nat} {n : Int} (h : w.heap[b]? = some (.cells (wcells k n) TCmd (0, 0))) : w.cell? ⟨b, 0, none⟩ = some (.int .u32 1) ∧ w.cell? ⟨b, 1, none⟩ = some (.int .u32 n) ∧ w.cell? ⟨b, 2, none⟩ = some (.int .u8 4) ∧ w.cell? ⟨b, 3, none⟩ = some (.slice (some ⟨k, 0, none⟩) 1 1) ∧
    w.cell? ⟨b, 4, none⟩ = some (.string ⟨#[]⟩) ∧ w.cell? ⟨b, 5, none⟩ = some (.string ⟨#[]⟩) ∧ w.cell? ⟨b, 6, none⟩ = some (.int .i64 1) :=
  ⟨blk_cell h rfl, blk_cell h rfl, blk_cell h rfl, blk_cell h rfl, blk_cell h rfl, blk_cell h rfl, blk_cell h rfl⟩
set_option maxRecDepth 100000 in
set_option maxHeartbeats 4000000 in
theorem wakes_any (w : World) (he : EnvAt w) : Calls Tryz.prog 6 #[] w fun e w' => e = .returned (.bool true) ∧ Upd [] w w' := by
  have ENV := hide he
  have hgl := hide (show ∀ k ∈ [0, 1, 2, 3], k < w.heap.size by have := he.size; simp; omega)
  clear he
  go_enter Tryz.func6, Tryz.ntmps6
  go_wp2_with fail
  refine (anew_any w).mono ?_
  rintro e w1 ⟨⟨p, rfl, ha1⟩, hu1⟩
  have hs1 := hu1.size
  go_upto_region 3 with fail
  have hK := blk_alloc (blk_new w1 (.cells #[.string ⟨#[97]⟩] 9)) (.cells (wcells w1.heap.size 1) TCmd)
  have hC := blk_new (w1.alloc (.cells #[.string ⟨#[97]⟩] 9)) (.cells (wcells w1.heap.size 1) TCmd)
  have hu := ((Upd.refl [] w1).alloc (.cells #[.string ⟨#[97]⟩] 9)).alloc (.cells (wcells w1.heap.size 1) TCmd)
  simp only [World.size_alloc] at hC
  change Code.wp _ _ _ _ ((w1.alloc (.cells #[.string ⟨#[97]⟩] 9)).alloc (.cells (wcells w1.heap.size 1) TCmd))
  have hs2 : ((w1.alloc (.cells #[.string ⟨#[97]⟩] 9)).alloc (.cells (wcells w1.heap.size 1) TCmd)).heap.size = w1.heap.size + 2 := by simp
  generalize (w1.alloc (.cells #[.string ⟨#[97]⟩] 9)).alloc (.cells (wcells w1.heap.size 1) TCmd) = w2 at *
  have A2 := hide (ha1.upd_nil hu); have U2 := hide (hu1.trans hu); have K2 := hide hK; have C2 := hide hC
  obtain ⟨B, hB⟩ : ∃ B, w1.heap.size = B := ⟨_, rfl⟩
  rw [hB] at A2 K2 C2 hs1 hs2 ⊢
  clear hK hC hu ha1 hu1 hB
  obtain ⟨x0, x1, x2, x3, x4, x5, x6⟩ := wcell C2.out
  go_wp2_with fail
  refine (wstep wdo1 w2 (ENV.out.upd_nil U2.out) A2.out ApOk.zero (by decide) ⟨wfit1, _, rfl, strs1 (s := [97]) K2.out⟩).mono ?_
  rintro e w3 ⟨rfl, ha3, ht3⟩
  rw [rp49]
  clear x0 x1 x2 x3 x4 x5 x6
  go_upto_region 4 with fail
  have hR := blk_new w3 (.cells #[.int .u8 0, .string ⟨#[49]⟩] TRp)
  have hal := (Upd.refl [] w3).alloc (.cells #[.int .u8 0, .string ⟨#[49]⟩] TRp)
  change Code.wp _ _ _ _ (w3.alloc (.cells #[.int .u8 0, .string ⟨#[49]⟩] TRp))
  have hs4 : (w3.alloc (.cells #[.int .u8 0, .string ⟨#[49]⟩] TRp)).heap.size = w3.heap.size + 1 := by simp
  generalize w3.alloc (.cells #[.int .u8 0, .string ⟨#[49]⟩] TRp) = w4 at *
  have hs3 := ht3.size
  have A4 := hide (ha3.upd_nil hal); have U4 := hide ((ht3.upd_new U2.out (Nat.le_refl _)).trans hal); have T4 := hide hR
  have K4 := hide (hal.get (ht3.get K2.out (.inr (by omega))) (by simp))
  have C4 := hide (hal.get (ht3.get C2.out (.inr (by omega))) (by simp))
  obtain ⟨R1, hRR1⟩ : ∃ R, w3.heap.size = R := ⟨_, rfl⟩
  rw [hRR1] at T4 hs3 hs4 ⊢
  have hRB1 : B + 2 ≤ R1 := by omega
  clear hR hal ha3 ht3 hRR1
  obtain ⟨x0, x1, x2, x3, x4, x5, x6⟩ := wcell C4.out
  go_wp2_with fail
  refine (wstep wdo2 w4 (ENV.out.upd_nil U4.out) A4.out wok1 (by decide) ⟨wfit1, _, rfl, strs1 (s := [97]) K4.out⟩).mono ?_
  rintro e w5 ⟨rfl, ha5, ht5⟩
  rw [rp49]
  clear x0 x1 x2 x3 x4 x5 x6
  have X4 := T4; clear T4
  go_upto_region 5 with fail
  have hR := blk_new w5 (.cells #[.int .u8 0, .string ⟨#[49]⟩] TRp)
  have hal := (Upd.refl [] w5).alloc (.cells #[.int .u8 0, .string ⟨#[49]⟩] TRp)
  change Code.wp _ _ _ _ (w5.alloc (.cells #[.int .u8 0, .string ⟨#[49]⟩] TRp))
  have hs6 : (w5.alloc (.cells #[.int .u8 0, .string ⟨#[49]⟩] TRp)).heap.size = w5.heap.size + 1 := by simp
  generalize w5.alloc (.cells #[.int .u8 0, .string ⟨#[49]⟩] TRp) = w6 at *
  have hs5 := ht5.size
  have A6 := hide (ha5.upd_nil hal); have U6 := hide ((ht5.upd_new U4.out (Nat.le_refl _)).trans hal); have T6 := hide hR
  have K6 := hide (hal.get (ht5.get K4.out (.inr (by omega))) (by simp))
  have C6 := hide (hal.get (ht5.get C4.out (.inr (by omega))) (by simp))
  have X6 := hide (hal.get (ht5.get X4.out (.inr (by omega))) (by simp))
  obtain ⟨R2, hRR2⟩ : ∃ R, w5.heap.size = R := ⟨_, rfl⟩
  rw [hRR2] at T6 hs5 hs6 ⊢
  have hRB2 : B + 2 ≤ R2 := by omega
  clear hR hal ha5 ht5 hRR2
  have Y6 := T6; clear T6
  have hC := blk_set (i := 1) C6.out (.int .u32 2)
  simp only [List.setIfInBounds_toArray, List.set_cons_succ, List.set_cons_zero] at hC
  have c1 : w6.cell? ⟨B + 1, 1, none⟩ = some (.int .u32 1) := blk_cell C6.out rfl
  have f1 : w6.frozen? ⟨B + 1, 1, none⟩ = false := blk_free C6.out
  have hup : Upd [B + 1] w6 (w6.setCell ⟨B + 1, 1, none⟩ (.int .u32 2)) := (Upd.refl _ _).setCell (p := ⟨B + 1, 1, none⟩) (.inl (by simp)) _
  go_upto_region 6 with fail
  have hst : Turned (B + 1) (B + 2) w6 (w6.setCell ⟨B + 1, 1, none⟩ (.int .u32 2)) := ⟨[B + 1], by simp, hup⟩
  have hsc := size_setCell w6 ⟨B + 1, 1, none⟩ (.int .u32 2)
  generalize w6.setCell ⟨B + 1, 1, none⟩ (.int .u32 2) = v6 at *
  have A6' := hide (A6.out.keep hst (.inl (by omega))); have U6' := hide (hst.upd_new U6.out (by omega)); have K6' := hide (hst.get K6.out (.inl (by omega))); have C6' : Hid (v6.heap[B + 1]? = some (.cells (wcells B 2) TCmd (0, 0))) := hC; have X6' := hide (hst.get X6.out (.inr (by omega))); have Y6' := hide (hst.get Y6.out (.inr (by omega)))
  rw [← hsc] at hs6
  clear hC c1 f1 hup hst A6 U6 K6 C6 X6 Y6 hsc
  have A6 := A6'; have U6 := U6'; have K6 := K6'; have C6 := C6'; have X6 := X6'; have Y6 := Y6'
  clear A6' U6' K6' C6' X6' Y6'
  obtain ⟨x0, x1, x2, x3, x4, x5, x6⟩ := wcell C6.out
  go_wp2_with fail
  refine (wstep wdo3 v6 (ENV.out.upd_nil U6.out) A6.out wok1 (by decide) ⟨wfit2, _, rfl, strs1 (s := [97]) K6.out⟩).mono ?_
  rintro e w7 ⟨rfl, ha7, ht7⟩
  rw [rp50]
  clear x0 x1 x2 x3 x4 x5 x6
  go_upto_region 7 with fail
  have hR := blk_new w7 (.cells #[.int .u8 0, .string ⟨#[50]⟩] TRp)
  have hal := (Upd.refl [] w7).alloc (.cells #[.int .u8 0, .string ⟨#[50]⟩] TRp)
  change Code.wp _ _ _ _ (w7.alloc (.cells #[.int .u8 0, .string ⟨#[50]⟩] TRp))
  have hs8 : (w7.alloc (.cells #[.int .u8 0, .string ⟨#[50]⟩] TRp)).heap.size = w7.heap.size + 1 := by simp
  generalize w7.alloc (.cells #[.int .u8 0, .string ⟨#[50]⟩] TRp) = w8 at *
  have hs7 := ht7.size
  have A8 := hide (ha7.upd_nil hal); have U8 := hide ((ht7.upd_new U6.out (Nat.le_refl _)).trans hal); have T8 := hide hR
  have K8 := hide (hal.get (ht7.get K6.out (.inr (by omega))) (by simp))
  have X8 := hide (hal.get (ht7.get X6.out (.inr (by omega))) (by simp))
  have Y8 := hide (hal.get (ht7.get Y6.out (.inr (by omega))) (by simp))
  obtain ⟨R3, hRR3⟩ : ∃ R, w7.heap.size = R := ⟨_, rfl⟩
  rw [hRR3] at T8 hs7 hs8 ⊢
  have hRB3 : B + 2 ≤ R3 := by omega
  clear hR hal ha7 ht7 hRR3
  have Z8 := T8; clear T8
  have hK := blk_new w8 (.cells #[.string ⟨#[97]⟩] 9)
  have hal := (Upd.refl [] w8).alloc (.cells #[.string ⟨#[97]⟩] 9)
  rw [hs8] at hK
  have hsz8 : (w8.alloc (.cells #[.string ⟨#[97]⟩] 9)).heap.size = w8.heap.size + 1 := by simp
  go_wp2_with fail
  refine (wstep wdo4 (w8.alloc (.cells #[.string ⟨#[97]⟩] 9)) (ENV.out.upd_nil (U8.out.trans hal)) (A8.out.upd_nil hal) wok2 (by decide) ⟨wfit3, _, rfl, strs1 (s := [97]) hK⟩).mono ?_
  rintro e w9 ⟨rfl, ha9, ht9⟩
  rw [rp3]
  have X8' := hide (hal.get X8.out (by simp)); have Y8' := hide (hal.get Y8.out (by simp)); have Z8' := hide (hal.get Z8.out (by simp)); have U8' := hide (U8.out.trans hal)
  generalize w8.alloc (.cells #[.string ⟨#[97]⟩] 9) = v8 at *
  clear X8 Y8 Z8 U8 hK hal A8
  have X8 := X8'; have Y8 := Y8'; have Z8 := Z8'; have U8 := U8'
  clear X8' Y8' Z8' U8'
  go_upto_region 8 with fail
  have hR := blk_new w9 (.cells #[.int .u8 3, .string ⟨#[]⟩] TRp)
  have hal := (Upd.refl [] w9).alloc (.cells #[.int .u8 3, .string ⟨#[]⟩] TRp)
  change Code.wp _ _ _ _ (w9.alloc (.cells #[.int .u8 3, .string ⟨#[]⟩] TRp))
  have hs10 : (w9.alloc (.cells #[.int .u8 3, .string ⟨#[]⟩] TRp)).heap.size = w9.heap.size + 1 := by simp
  generalize w9.alloc (.cells #[.int .u8 3, .string ⟨#[]⟩] TRp) = w10 at *
  have hs9 := ht9.size
  have A10 := hide (ha9.upd_nil hal); have U10 := hide ((ht9.upd_new U8.out (Nat.le_refl _)).trans hal); have T10 := hide hR
  have X10 := hide (hal.get (ht9.get X8.out (.inr (by omega))) (by simp))
  have Y10 := hide (hal.get (ht9.get Y8.out (.inr (by omega))) (by simp))
  have Z10 := hide (hal.get (ht9.get Z8.out (.inr (by omega))) (by simp))
  obtain ⟨R4, hRR4⟩ : ∃ R, w9.heap.size = R := ⟨_, rfl⟩
  rw [hRR4] at T10 hs9 hs10 ⊢
  have hRB4 : B + 2 ≤ R4 := by omega
  clear hR hal ha9 ht9 hRR4
  obtain ⟨y0, y1, -, -, -, -⟩ := res_facts X10.out
  obtain ⟨y2, y3, -, -, -, -⟩ := res_facts Y10.out
  obtain ⟨y4, y5, -, -, -, -⟩ := res_facts Z10.out
  obtain ⟨y6, y7, -, -, -, -⟩ := res_facts T10.out
  have q1 := eql49 w10; have q2 := eql50 w10; have q3 := eql3 w10
  go_wp2_with fail
  refine (acount_any w10 A10.out).mono ?_
  rintro e w11 ⟨rfl, rfl⟩
  rw [show ((wa2.n : Nat) : Int) = 2 from rfl]
  go_wp2_with fail
  go_ret
  exact ⟨rfl, U10.out⟩
end Go.Proofs.YthpnnffogbjhpaaGreatDoor.Kv
