/- quoratelaw06.RecordKeeps returns true, and turns nothing that was there. -/
import Derived.Test.YtmgdhloehkdffaaDoorRecPl
namespace Go.Proofs.YtmgdhloehkdffaaDoor.Rec
open Go.RowKit Go.Proofs.YtmgdhloehkdffaaDoor.Var Go.Proofs.YtmgdhloehkdffaaDoor.Crc Go.Proofs.YtmgdhloehkdffaaDoor.Fr Go.Proofs.YtmgdhloehkdffaaDoor.DiskW

/-- The disk behind k records, s of them synced as soon as one more is there. -/
def KS (ls : List (List UInt8)) (s k : Nat) : DS := ⟨frs (ls.take k), if s < k then ends ls s else 0, false, -1⟩
theorem log_row {b x : List UInt8} {s : Nat} (h0 : x.length ≠ 0) (h1 : x.length ≤ 65536) : DS.log ⟨b, s, false, -1⟩ x = (⟨b ++ fr x, s, false, -1⟩, 0) := by
  unfold DS.log
  rw [if_neg (by simp), if_neg (by omega)]
  unfold DS.append
  rw [if_neg (by simp), if_neg (by simp)]
  simp
theorem frs_snoc {ls : List (List UInt8)} {k : Nat} {x : List UInt8} (h : ls[k]? = some x) : frs (ls.take k) ++ fr x = frs (ls.take (k + 1)) := by
  rw [List.take_add_one, h, frs_append]
  simp [frs]
theorem ks_log {ls : List (List UInt8)} {s k : Nat} {x : List UInt8} (h : ls[k]? = some x) (h0 : x.length ≠ 0) (h1 : x.length ≤ 65536) (hs : k ≠ s) : (KS ls s k).log x = (KS ls s (k + 1), 0) := by
  unfold KS
  rw [log_row h0 h1, frs_snoc h]
  by_cases h2 : s < k
  · rw [if_pos h2, if_pos (by omega)]
  · rw [if_neg h2, if_neg (by omega)]
theorem ks_sync {ls : List (List UInt8)} {s : Nat} : (KS ls s s).sync = (⟨frs (ls.take s), ends ls s, false, -1⟩, 0) := by
  unfold KS DS.sync
  rw [if_neg (by simp)]
  rfl
theorem ks_log2 {ls : List (List UInt8)} {s : Nat} {x : List UInt8} (h : ls[s]? = some x) (h0 : x.length ≠ 0) (h1 : x.length ≤ 65536) : DS.log ⟨frs (ls.take s), ends ls s, false, -1⟩ x = (KS ls s (s + 1), 0) := by
  rw [log_row h0 h1, frs_snoc h]
  unfold KS
  rw [if_pos (by omega)]
theorem take_row_len {ls : List (List UInt8)} {k : Nat} (hk : k ≤ 30) (h : ∀ i, i < k → (ls.getD i []).length ≤ 100) (hl : k ≤ ls.length) : (frs (ls.take k)).length ≤ 3420 := by
  have h1 : ∀ x ∈ ls.take k, x.length ≤ 100 := by
    intro x hx
    obtain ⟨i, h1, h2⟩ := List.getElem_of_mem hx
    rw [List.length_take] at h1
    have h3 := h i (by omega)
    rw [List.getD_eq_getElem?_getD, List.getElem?_eq_getElem (by omega)] at h3
    rw [List.getElem_take] at h2
    rw [← h2]
    exact h3
  have h2 := frs_len h1 (by omega)
  rw [List.length_take] at h2
  have : min k ls.length * (14 + 100) ≤ 30 * 114 := Nat.mul_le_mul (by omega) (by omega)
  omega
theorem ks_ok {ls : List (List UInt8)} {s k : Nat} (hk : k ≤ 30) (hl : k ≤ ls.length) (h : ∀ i, i < k → (ls.getD i []).length ≤ 100) : (KS ls s k).Ok 1000000000000 := by
  have h1 := take_row_len hk h hl
  refine ⟨?_, by simp only [KS]; omega, by simp [KS], by simp [KS]⟩
  simp only [KS]
  split
  · exact ends_mono (by omega) hl
  · omega
/-- The first k records are of a sort that the law looks at. -/
def Ins (ls : List (List UInt8)) (k : Nat) : Prop := ∀ i, i < k → (ls.getD i []).length ≠ 0 ∧ (ls.getD i []).length ≤ 100
theorem Ins.step {ls : List (List UInt8)} {k n : Nat} {x : List UInt8} (h : Ins ls k) (hx : ls.getD k [] = x) (hn : x.length = n) (h0 : n ≠ 0) (h1 : n ≤ 100) : Ins ls (k + 1) := by
  intro i hi
  rcases Nat.lt_or_ge i k with h2 | h2
  · exact h i h2
  · rw [show i = k by omega, hx, hn]; exact ⟨h0, h1⟩
theorem Ins.all {ls : List (List UInt8)} (h : Ins ls ls.length) : ∀ x ∈ ls, x.length ≠ 0 ∧ x.length ≤ 100 := by
  intro x hx
  obtain ⟨i, h1, h2⟩ := List.getElem_of_mem hx
  have h3 := h i h1
  rw [List.getD_eq_getElem?_getD, List.getElem?_eq_getElem h1] at h3
  rw [← h2]
  exact h3
theorem ks_end {ls : List (List UInt8)} {s : Nat} (h : s < ls.length) : KS ls s ls.length = ⟨frs ls, ends ls s, false, -1⟩ := by
  unfold KS
  rw [if_pos h, List.take_length]
theorem crash_cut {b : List UInt8} {s c : Nat} : DS.crash ⟨b, s, false, -1⟩ (c : Int) = (⟨b.take (s + c), s, true, -1⟩, 0) := by
  unfold DS.crash
  rw [if_neg (by simp)]
  by_cases h : (0 : Int) ≤ (c : Int) ∧ (c : Int) < (b.length : Int) - (s : Int)
  · simp only [if_pos h, Int.toNat_natCast]
  · simp only [if_neg h]
    rw [List.take_of_length_le (by omega)]
theorem Ins.fit {ls : List (List UInt8)} (h : ∀ x ∈ ls, x.length ≠ 0 ∧ x.length ≤ 100) : ∀ x ∈ ls, Fit x := fun x hx => ⟨fun e => (h x hx).1 (by rw [e]; rfl), by have := (h x hx).2; omega⟩
/-- How many are synced. -/
theorem sure_of {sy len : Nat} (h : sy < 256) (hl : len ≤ 9223372036854775807) : ∃ (M : Int) (s : Nat), s ≤ len ∧ IntKind.i64.wrap ((len : Int) + 1) = M ∧ M ≠ 0 ∧ (sy : Int) % M = (s : Int) := by
  by_cases h1 : len < 9223372036854775807
  · refine ⟨(len : Int) + 1, sy % (len + 1), by have := Nat.mod_lt sy (y := len + 1) (by omega); omega, IntWalk.i64_in _ (by omega), by omega, rfl⟩
  · have e1 : len = 9223372036854775807 := by omega
    subst e1
    refine ⟨-9223372036854775808, sy, by omega, by decide, by decide, ?_⟩
    rw [show (-9223372036854775808 : Int) = -9223372036854775808 from rfl, Int.emod_neg]
    exact Int.emod_eq_of_lt (by omega) (by omega)
set_option maxRecDepth 100000 in
set_option maxHeartbeats 4000000 in
theorem keeps_any {v : Value} {ls : List (List UInt8)} {sy kp tn : Nat} (w : World) (hst : TabAt w) (h : ReadsRows w v ls) (hsy : sy < 256) (hkp : kp ≤ 65535) (htn : tn ≤ 65535) :
    Calls Tryd.prog 6 #[v, .int .u8 (sy : Int), .int .u16 (kp : Int), .int .u16 (tn : Int)] w fun e w' => e = .returned (.bool true) ∧ Upd [] w w' := by
  have HST := hide hst; have RR := hide h
  obtain ⟨ao, cap, rfl, h1, h2, h3⟩ := h
  simp only [maxLen] at h2
  have HA := hide h3
  clear h3 hst
  go_enter Tryd.func6, Tryd.ntmps6
  go_wp2_with fail
  refine (new_at w).mono ?_
  rintro e w1 ⟨rfl, h1⟩
  have H1 := hide h1
  clear h1
  go_wp2_with fail
  refine (open_at HST.out H1.out ⟨by simp, by simp, by simp, by simp⟩).mono ?_
  rintro e w2 ho
  obtain ⟨L, ao2, cap2, vs2, rfl, hL, -, h2, -⟩ := ho.ok (l1 := []) (l2 := []) (n1 := 0) (n2 := 0) (e2 := 0) rfl rfl rfl
  have h2' : At w w.heap.size ⟨[], 0, false, -1⟩ w2 := h2
  have H2 := hide h2'; have L2 := hide hL
  clear ho hL h2 h2'
  simp only [List.append_nil, List.length_nil]
  go_upto_if 41 with fail
  go_cut [13] (fun s wx => ∃ sure : Nat, s = .int .i64 sure ∧ sure ≤ ls.length ∧ w2 = wx)
  case first =>
    as_aux_lemma =>
    by_cases h0 : 0 < ls.length
    · have z1 : decide (0 < ls.length) = true := by simpa using h0
      obtain ⟨M, s, hs1, hs0, hs3, hs2⟩ := sure_of hsy (show ls.length ≤ 9223372036854775807 by omega)
      go_wp2_with fail
      go_meet
      exact ⟨s, congrArg (Value.int .i64) hs2, hs1, rfl⟩
    · have z1 : decide (0 < ls.length) = false := by simpa using h0
      go_wp2_with fail
      go_meet
      exact ⟨0, rfl, by omega, rfl⟩
  case rest =>
  obtain ⟨sure, rfl, hsure, rfl⟩ := hcut
  go_upto_block 0 with fail
  go_cut [14] (fun _ wx => ls.length ≤ 30 ∧ Ins ls ls.length ∧ At w w.heap.size (KS ls sure ls.length) wx ∧ LogAt w.heap.size L wx)
  case first =>
    as_aux_lemma =>
    go_wp2_with fail
    go_loopw [14] (fun si wr => ∃ k : Nat, k ≤ ls.length ∧ k ≤ 30 ∧ si = .int .i64 k ∧ Ins ls k ∧ At w w.heap.size (KS ls sure k) wr ∧ LogAt w.heap.size L wr) (fun si _ => ls.length - (intOf si).toNat)
    case atStart => exact ⟨0, by omega, by omega, rfl, fun i hi => by omega, H2.out, L2.out⟩
    case round =>
      obtain ⟨k, hk, hk30, rfl, hin, hat, hL⟩ := hrel
      have A := hide hat; have LA := hide hL; have IN := hide hin
      have OK := hide (ks_ok (s := sure) hk30 hk (fun i hi => (hin i hi).2))
      clear hat hL hin H2 L2
      by_cases hlt : k < ls.length
      · have d5 : decide ((k : Int) < ls.length) = true := by simp; omega
        have d5' : decide (k < ls.length) = true := by simpa using hlt
        obtain ⟨x, hx⟩ : ∃ x, ls[k]? = some x := ⟨_, List.getElem?_eq_getElem hlt⟩
        obtain ⟨b6, of6, xo6, n6, c6, e6, hcl6, hsr6, -⟩ := HA.out k x hx
        have hxl : x.length = n6 := by have := hsr6.len; simpa using this
        have hgd : ls.getD k [] = x := by rw [List.getD_eq_getElem?_getD, hx]; rfl
        subst e6
        have hcl6' := cell_keep A.out.2.1 hcl6 (by simp)
        have SR := hide hsr6; have CL := hide hcl6
        have HX := hide hx; have XL := hide hxl; have GD := hide hgd
        clear hsr6 hcl6 hx hxl hgd
        by_cases hz : n6 = 0
        · have z1 : ((n6 : Int) == 0) = true := by simp; omega
          go_wp2_with fail
          refine (wakes_any _ (HST.out.upd A.out.2.1 (by simp))).mono ?_
          rintro e w4 ⟨rfl, hu4⟩
          have U4 := hide (A.out.2.1.trans hu4)
          clear hu4
          go_wp2_with fail
          go_ret
          exact ⟨rfl, U4.out⟩
        have z1 : ((n6 : Int) == 0) = false := by simp; omega
        by_cases hg : 100 < n6
        · have z2 : decide ((100 : Int) < n6) = true := by simp; omega
          go_wp2_with fail
          refine (wakes_any _ (HST.out.upd A.out.2.1 (by simp))).mono ?_
          rintro e w4 ⟨rfl, hu4⟩
          have U4 := hide (A.out.2.1.trans hu4)
          clear hu4
          go_wp2_with fail
          go_ret
          exact ⟨rfl, U4.out⟩
        have z2 : decide ((100 : Int) < n6) = false := by simp; omega
        by_cases h30 : 30 ≤ k
        · have z3 : decide ((30 : Int) ≤ k) = true := by simp; omega
          go_wp2_with fail
          refine (wakes_any _ (HST.out.upd A.out.2.1 (by simp))).mono ?_
          rintro e w4 ⟨rfl, hu4⟩
          have U4 := hide (A.out.2.1.trans hu4)
          clear hu4
          go_wp2_with fail
          go_ret
          exact ⟨rfl, U4.out⟩
        have z3 : decide ((30 : Int) ≤ k) = false := by simp; omega
        by_cases hks : k = sure
        · subst hks
          have z4 : ((k : Int) == (k : Int)) = true := by simp
          go_wp2_with fail
          refine (lsync_at A.out LA.out).mono ?_
          rintro e w4 ⟨rfl, h4, hn4⟩
          rw [ks_sync] at h4
          rw [ks_sync]
          have A4 := hide h4; have L4 := hide (LA.out.near hn4)
          have hcl4 := cell_keep A4.out.2.1 CL.out (by simp)
          clear h4 hn4 z4 hcl6'
          go_wp2_with fail
          refine (lappend_at (bs := x) HST.out A4.out L4.out (src_upd_nil SR.out A4.out.2.1) ⟨Nat.le_refl _, OK.out.len, by simp, by simp⟩ (by omega)).mono ?_
          rintro e w5 ⟨rfl, h5, hn5⟩
          rw [ks_log2 HX.out (by have := XL.out; omega) (by have := XL.out; omega)] at h5
          rw [ks_log2 HX.out (by have := XL.out; omega) (by have := XL.out; omega)]
          have A5 := hide h5; have L5 := hide (L4.out.near hn5)
          clear h5 hn5
          go_wp2_with fail
          go_roundw
          case rel => exact ⟨k + 1, by omega, by omega, by go_num, IN.out.step GD.out XL.out (by omega) (by omega), A5.out, L5.out⟩
          case measure => simp [intOf]; omega
        · have z4 : ((k : Int) == (sure : Int)) = false := by simp; omega
          go_wp2_with fail
          refine (lappend_at (bs := x) HST.out A.out LA.out (src_upd_nil SR.out A.out.2.1) OK.out (by omega)).mono ?_
          rintro e w5 ⟨rfl, h5, hn5⟩
          rw [ks_log HX.out (by have := XL.out; omega) (by have := XL.out; omega) hks] at h5
          rw [ks_log HX.out (by have := XL.out; omega) (by have := XL.out; omega) hks]
          have A5 := hide h5; have L5 := hide (LA.out.near hn5)
          clear h5 hn5
          go_wp2_with fail
          go_roundw
          case rel => exact ⟨k + 1, by omega, by omega, by go_num, IN.out.step GD.out XL.out (by omega) (by omega), A5.out, L5.out⟩
          case measure => simp [intOf]; omega
      · have d5 : decide ((k : Int) < ls.length) = false := by simp; omega
        have d5' : decide (k < ls.length) = false := by simpa using hlt
        have e1 : k = ls.length := by omega
        subst e1
        go_wp2_with fail
        go_meet
        exact ⟨hk30, IN.out, A.out, LA.out⟩
  case rest =>
  obtain ⟨h30, hin, hat, hL⟩ := hcut
  have A := hide hat; have LA := hide hL; have IN := hide hin.all
  have hfl := take_row_len h30 (fun i hi => (hin i hi).2) (Nat.le_refl _)
  rw [List.take_length] at hfl
  have hel := ends_le hsure
  clear hat hL hin H2 L2
  go_upto_region 15 with fail
  go_cut [98] (fun s wx => s = .bool false ∧ At w w.heap.size ⟨frs ls, ends ls sure, false, -1⟩ wx)
  case first =>
    as_aux_lemma =>
    by_cases hs : sure = ls.length
    · subst hs
      have z4 : ((ls.length : Int) == (ls.length : Int)) = true := by simp
      go_wp2_with fail
      refine (lsync_at A.out LA.out).mono ?_
      rintro e w4 ⟨rfl, h4, hn4⟩
      rw [ks_sync, List.take_length] at h4
      rw [ks_sync]
      have A4 := hide h4
      clear h4 hn4
      go_wp2_with fail
      go_meet
      exact ⟨rfl, A4.out⟩
    · have z4 : ((sure : Int) == (ls.length : Int)) = false := by simp; omega
      go_wp2_with fail
      go_meet
      exact ⟨rfl, by rw [← ks_end (by omega)]; exact A.out⟩
  case rest =>
  obtain ⟨rfl, hat⟩ := hcut
  have A5 := hide hat
  clear hat A LA
  obtain ⟨g, hg⟩ : ∃ g, g = (frs ls).length - ends ls sure := ⟨_, rfl⟩
  obtain ⟨g1, hg1⟩ : ∃ g1, g1 = g + 1 := ⟨_, rfl⟩
  obtain ⟨c, hc⟩ : ∃ c, c = kp % g1 := ⟨_, rfl⟩
  have hcl : c < g1 := by rw [hc]; exact Nat.mod_lt _ (by omega)
  have w1 : IntKind.i64.wrap (((frs ls).length : Int) - (ends ls sure : Int)) = (g : Int) := by rw [IntWalk.i64_in _ (by omega)]; omega
  have w2 : IntKind.i64.wrap ((g : Int) + 1) = (g1 : Int) := by rw [IntWalk.i64_in _ (by omega)]; omega
  have w3 : (kp : Int) % (g1 : Int) = (c : Int) := by rw [hc]; rfl
  have w4 : (g1 : Int) ≠ 0 := by omega
  have hcr := crash_cut (b := frs ls) (s := ends ls sure) (c := c)
  have CR := hide hcr
  have hE : ends ls sure + c ≤ (frs ls).length := by omega
  have HE := hide hE
  clear hc hcr hg hg1 hcl hE
  go_wp2_with fail
  refine (bytes_at A5.out (by simp only; omega)).mono ?_
  rintro e w6 ⟨⟨bo6, bc6, rfl, -⟩, hu6⟩
  have A6 := hide (A5.out.quiet hu6).1
  clear hu6
  simp only []
  go_wp2_with fail
  obtain ⟨bv6, hd6⟩ := A6.out.2.2
  refine (synced_any _ hd6).mono ?_
  rintro e w7 ⟨rfl, rfl⟩
  clear hd6
  simp only []
  go_wp2_with fail
  refine (crash_at A6.out ⟨hel, by simp only; omega, by simp, by simp⟩).mono ?_
  rintro e w7 ⟨rfl, h7, -⟩
  rw [CR.out] at h7
  have A7 := hide h7
  clear h7
  go_wp2_with fail
  refine (restart_at A7.out).mono ?_
  rintro e w8 ⟨rfl, h8, -⟩
  have h8' : At w w.heap.size ⟨(frs ls).take (ends ls sure + c), ends ls sure, false, -1⟩ w8 := h8
  have A8 := hide h8'
  clear h8 h8' A7 A6 A5
  obtain ⟨p0, hp0⟩ : ∃ p0, p0 = ends ls sure + c := ⟨_, rfl⟩
  rw [← hp0] at A8
  go_upto_block 2 with fail
  go_cut [15] (fun s wx => ∃ q, sure ≤ q ∧ q ≤ ls.length ∧ s = .int .i64 (q : Nat) ∧ At w w.heap.size ⟨(frs ls).take (ends ls q), ends ls q, false, -1⟩ wx)
  case first =>
    as_aux_lemma =>
    go_wp2_with fail
    go_loopw [15, 16] (fun sk si wr => ∃ i s p : Nat, i ≤ 2 ∧ si = .int .i64 i ∧ sure ≤ s ∧ s ≤ ls.length ∧ ends ls s ≤ p ∧ p ≤ (frs ls).length ∧ At w w.heap.size ⟨(frs ls).take p, ends ls s, false, -1⟩ wr ∧ (i ≠ 0 → p = ends ls s ∧ sk = .int .i64 s)) (fun _ si _ => 2 - (intOf si).toNat)
    case atStart => exact ⟨0, sure, p0, by omega, rfl, by omega, hsure, by omega, by have := HE.out; omega, A8.out, fun h => absurd rfl h⟩
    case round =>
      obtain ⟨i, s, p, hi, rfl, hs1, hs2, hp1, hp2, hat, hlast⟩ := hrel
      have A := hide hat; have LAST := hide hlast
      clear hat hlast A8
      by_cases hlt : i < 2
      · have d5 : decide ((i : Int) < 2) = true := by simp; omega
        have d5' : decide (i < 2) = true := by simpa using hlt
        obtain ⟨q, e2, hq1, hq2, hq3, ha1, ha2, ha3, ha4, ha5⟩ := told (Ins.fit IN.out) hs2 hp1 hp2
        have hq4 := ends_le hq2
        have hok : DS.Ok ⟨(frs ls).take p, ends ls s, false, -1⟩ 1000000000000 := ⟨by simp only [List.length_take]; omega, by simp only [List.length_take]; omega, by simp, by simp⟩
        have AL := hide ha1; have AL2 := hide ha2; have E3 := hide ha3; have E4 := hide ha4; have E5 := hide ha5; have OK := hide hok
        clear ha1 ha2 ha3 ha4 ha5 hok LAST
        go_wp2_with fail
        refine (open_at HST.out A.out OK.out).mono ?_
        rintro e w9 ho
        obtain ⟨L9, mo, mc, mv, rfl, -, hlie, h9, -⟩ := ho.ok rfl AL.out AL2.out
        have h9' : At w w.heap.size ⟨((frs ls).take p).take (ends ls s + (ends ls q - ends ls s)), ends ls s + (ends ls q - ends ls s), false, -1⟩ w9 := h9
        rw [E4.out, E5.out] at h9'
        have hlr := hlie.rows.reads
        rw [E3.out] at hlr
        have hlq : (ls.take q).length = q := by rw [List.length_take]; omega
        have hlq2 : (ls.take s ++ (ls.drop s).take (q - s)).length = q := by rw [E3.out, hlq]
        rw [hlq2]
        obtain ⟨mo', mc', em, hm1, hm2, hm3⟩ := hlr
        cases em
        rw [hlq] at hm1
        have A9 := hide h9'; have HM := hide hm3
        have z1 : decide ((q : Int) < (sure : Int)) = false := by simp; omega
        have z2 : decide ((ls.length : Int) < (q : Int)) = false := by simp; omega
        simp only [maxLen] at hm2
        clear ho h9 h9' hlie hlq2 hm3 E3 E4 E5 AL AL2 OK A
        go_wp2_with fail
        go_loopw [20] (fun sk wr => ∃ k : Nat, k ≤ q ∧ sk = .int .i64 k ∧ Upd [] w9 wr) (fun sk _ => q - (intOf sk).toNat)
        case atStart => exact ⟨0, by omega, rfl, Upd.refl _ _⟩
        case round =>
          obtain ⟨k, hk, rfl, hu⟩ := hrel
          have HU := hide hu
          clear hu
          by_cases hlt2 : k < q
          · have d6 : decide ((k : Int) < (q : Int)) = true := by simp; omega
            have d6' : decide (k < q) = true := by simpa using hlt2
            have hkl : k < ls.length := by omega
            obtain ⟨x, hx⟩ : ∃ x, ls[k]? = some x := ⟨_, List.getElem?_eq_getElem hkl⟩
            have hy : (ls.take q)[k]? = some x := by rw [List.getElem?_take, if_pos hlt2]; exact hx
            obtain ⟨b6, of6, xo6, n6, c6, e6, hcl6, hsr6, -⟩ := HA.out k x hx
            obtain ⟨b7, of7, xo7, n7, c7, e7, hcl7, hsr7, -⟩ := HM.out k x hy
            subst e6; subst e7
            have hcl6' := cell_keep (A9.out.2.1.trans HU.out) hcl6 (by simp)
            have hcl7' := cell_keep HU.out hcl7 (by simp)
            have hcv6 := fun nq => run_str (src_upd_nil hsr6 ((A9.out.2.1.trans HU.out).drewN nq))
            have hcv7 := fun nq => run_str (src_upd_nil hsr7 (HU.out.drewN nq))
            have hq := strOf_eq x x
            rw [decide_eq_true rfl] at hq
            clear hsr6 hsr7 hcl6 hcl7 hx hy
            go_wp2_with fail
            go_quiet (fail)
            go_wp2_with fail
            go_roundw
            case rel => exact ⟨k + 1, by omega, by go_num, HU.out.drewN _⟩
            case measure => simp [intOf]; omega
          · have d6 : decide ((k : Int) < (q : Int)) = false := by simp; omega
            have d6' : decide (k < q) = false := by simpa using hlt2
            have A10 := hide (A9.out.quiet HU.out).1
            clear HU A9
            go_wp2_with fail
            go_roundw
            case rel => exact ⟨i + 1, q, ends ls q, by omega, by go_num, by omega, hq2, Nat.le_refl _, hq4, A10.out, fun _ => ⟨rfl, by go_num⟩⟩
            case measure => simp [intOf]; omega
      · have d5 : decide ((i : Int) < 2) = false := by simp; omega
        have d5' : decide (i < 2) = false := by simpa using hlt
        obtain ⟨rfl, rfl⟩ := LAST.out (by omega)
        go_wp2_with fail
        go_meet
        exact ⟨s, hs1, hs2, rfl, A.out⟩
  case rest =>
  obtain ⟨q, hq1, hq2, rfl, hat⟩ := hcut
  rw [frs_take_ends] at hat
  have A := hide hat
  clear hat A8 HE w1 w2 w3 w4 CR
  by_cases hq0 : q = 0
  · have z1 : ((q : Int) == 0) = true := by simp; omega
    go_wp2_with fail
    refine (wakes_any _ (HST.out.upd A.out.2.1 (by simp))).mono ?_
    rintro e w9 ⟨rfl, hu9⟩
    have U9 := hide (A.out.2.1.trans hu9)
    clear hu9
    go_wp2_with fail
    go_ret
    exact ⟨rfl, U9.out⟩
  have z1 : ((q : Int) == 0) = false := by simp; omega
  obtain ⟨lq, hlq⟩ : ∃ lq, lq = ls.take q := ⟨_, rfl⟩
  have hll : lq.length = q := by rw [hlq, List.length_take]; omega
  have hen : ends ls q = (frs lq).length := by rw [hlq]; rfl
  have hfq : (frs lq).length ≤ 3420 := by rw [← hen]; have := ends_le hq2; omega
  rw [← hlq, hen] at A
  have hrq : ReadsRows w (.slice ao q cap) lq := by
    refine ⟨ao, cap, by rw [hll], by omega, by simp only [maxLen]; omega, fun i l hi => HA.out i l ?_⟩
    rw [hlq, List.getElem?_take] at hi
    split at hi
    · exact hi
    · cases hi
  have inq : ∀ x ∈ lq, x.length ≠ 0 ∧ x.length ≤ 100 := fun x hx => IN.out x (by rw [hlq] at hx; exact List.mem_of_mem_take hx)
  have RQ := hide hrq; have INQ := hide inq
  have sz : ∀ w, (sizeOf 22).run Tryd.prog w = .ok 1 w := fun w => by kernel_rfl
  have hcut1 := run_cut_h (P := Tryd.prog) 30 22 Tryd.underlying30 sz ao ls.length cap q (q : Int) rfl (by omega)
  have HLL := hide hll
  clear hrq inq hlq hen hll sz
  go_upto_region 34 with fail
  go_wp2_with fail
  refine (crash_at A.out ⟨Nat.le_refl _, by simp only; omega, by simp, by simp⟩).mono ?_
  rintro e w4 ⟨rfl, h4, -⟩
  have hcr := crash_cut (b := frs lq) (s := (frs lq).length) (c := 0)
  rw [Nat.add_zero, List.take_length] at hcr
  have h4' : At w w.heap.size (DS.crash ⟨frs lq, (frs lq).length, false, -1⟩ ((0 : Nat) : Int)).1 w4 := h4
  rw [hcr] at h4'
  have A4 := hide h4'
  clear h4 h4' hcr A
  go_upto_region 35 with fail
  go_cut [175] (fun s wx => s = .bool false ∧ ∃ Z : List UInt8, Z.length = (frs lq).length ∧ (all Z).2.2 = 12 ∧ At w w.heap.size ⟨Z, (frs lq).length, false, -1⟩ wx)
  case first =>
    as_aux_lemma =>
    go_wp2_with fail
    refine (place_any _ (RQ.out.upd A4.out.2.1) (by have := HLL.out; omega) (by have := HLL.out; omega) (fun x hx => (INQ.out x hx).2) htn).mono ?_
    rintro e w5 ⟨⟨i, j, s, hi, hj, hs, rfl⟩, rfl⟩
    have ht := turned (Ins.fit INQ.out) (fun x hx => by have := (INQ.out x hx).2; omega) hi hj hs
    have htb := turn_bit (n := (frs lq).length) ht.1 hs
    obtain ⟨N, hN⟩ : ∃ N, N = 8 * (ends lq i + 1 + j) + s := ⟨_, rfl⟩
    rw [← hN] at htb
    rw [← hN]
    have hb : N ≤ 1000000 := by have := ht.1; omega
    have TB := hide htb; have T := hide ht
    clear htb ht hN
    go_wp2_with fail
    refine (turn_at A4.out (by simp only; omega) (by omega) (by omega)).mono ?_
    rintro e w6 ⟨rfl, h6, -⟩
    rw [TB.out] at h6
    rw [TB.out]
    have A6 := hide h6
    clear h6 hb
    go_wp2_with fail
    refine (restart_at A6.out).mono ?_
    rintro e w7 ⟨rfl, h7, -⟩
    have A7 := hide h7
    clear h7
    go_wp2_with fail
    go_meet
    exact ⟨rfl, _, by rw [List.length_set], T.out.2, A7.out⟩
  case rest =>
  obtain ⟨rfl, Z, hZ, hall, hat⟩ := hcut
  rw [← hZ] at hat
  have hok : DS.Ok ⟨Z, Z.length, false, -1⟩ 1000000000000 := ⟨by simp only; omega, by simp only; omega, by simp, by simp⟩
  have hbad : (all (Z.take Z.length)).2.2 ≠ 0 := by rw [List.take_length, hall]; decide
  have hZl : Z.length ≤ 1000000000000 := by omega
  have A8 := hide hat; have OK8 := hide hok; have BAD := hide hbad; have ZL := hide hZl
  clear hat hok hbad hZl hall A4 hZ
  go_wp2_with fail
  refine (bytes_at A8.out ZL.out).mono ?_
  rintro e w5 ⟨⟨bo5, bc5, rfl, ho5⟩, hu5⟩
  have A9 := hide (A8.out.quiet hu5).1
  have hs5 := run_str (src_ownB ho5)
  clear hu5 ho5 A8
  simp only [] at hs5 ⊢
  go_wp2_with fail
  go_loopw [22] (fun si wr => ∃ i : Nat, i ≤ 2 ∧ si = .int .i64 i ∧ At w w.heap.size ⟨Z, Z.length, false, -1⟩ wr) (fun si _ => 2 - (intOf si).toNat)
  case atStart => exact ⟨0, by omega, rfl, A9.out⟩
  case round =>
    obtain ⟨i, hi, rfl, hat⟩ := hrel
    have A := hide hat
    clear hat A9
    by_cases hlt : i < 2
    · have d5 : decide ((i : Int) < 2) = true := by simp; omega
      have d5' : decide (i < 2) = true := by simpa using hlt
      go_wp2_with fail
      refine (open_at HST.out A.out OK8.out).mono ?_
      rintro e w9 ho
      obtain ⟨rfl, h9, -⟩ := ho.bad rfl BAD.out
      have A9 := hide h9
      clear ho h9
      go_wp2_with fail
      refine (bytes_at A9.out ZL.out).mono ?_
      rintro e w6 ⟨⟨bo6, bc6, rfl, ho6⟩, hu6⟩
      have A6 := hide (A9.out.quiet hu6).1
      have hs6 := run_str (src_ownB ho6)
      have hq := strOf_eq Z Z
      rw [decide_eq_true rfl] at hq
      clear hu6 ho6
      simp only [] at hs6 ⊢
      go_wp2_with fail
      go_roundw
      case rel => exact ⟨i + 1, by omega, by go_num, A6.out⟩
      case measure => simp [intOf]; omega
    · have d5 : decide ((i : Int) < 2) = false := by simp; omega
      have d5' : decide (i < 2) = false := by simpa using hlt
      go_wp2_with fail
      refine (wakes_any _ (HST.out.upd A.out.2.1 (by simp))).mono ?_
      rintro e w9 ⟨rfl, hu9⟩
      have U9 := hide (A.out.2.1.trans hu9)
      clear hu9
      go_wp2_with fail
      go_ret
      exact ⟨rfl, U9.out⟩
end Go.Proofs.YtmgdhloehkdffaaDoor.Rec
