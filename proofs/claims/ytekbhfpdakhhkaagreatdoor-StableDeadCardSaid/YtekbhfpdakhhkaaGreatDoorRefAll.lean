/- CrcR, RefV, RefF, RefA, RecRz in one text. -/
import Derived.Test.YtekbhfpdakhhkaaGreatDoorFrAll
import Derived.Test.YtekbhfpdakhhkaaGreatDoorGenAll
import Derived.Test.YtekbhfpdakhhkaaGreatDoorCrcW
import Derived.Test.YtekbhfpdakhhkaaGreatDoorRecAll
namespace Go.Proofs.YtekbhfpdakhhkaaGreatDoor.Ref
open Go.RowKit Go.Proofs.YtekbhfpdakhhkaaGreatDoor.Var Go.Proofs.YtekbhfpdakhhkaaGreatDoor.Crc

/-- A new block is a row of the call's own. -/
theorem owns_block {w : World} {base b n : Nat} {cs : Array Value} {e : TypeId} {xs : List Value} (h : w.heap[b]? = some (.cells cs e (0, 0))) (hb : base ≤ b) (hc : cs.toList = xs) (hn : xs.length = n) (hm : n ≤ maxLen) :
    w.ownsRow base e 1 (.slice (some ⟨b, 0, none⟩) n n) n xs := by
  subst hn; subst hc
  exact ⟨by simp, .inr ⟨b, _, cs, rfl, hb, h, Nat.le_refl _, hm, by simp, by rw [List.take_of_length_le (by simp)]⟩⟩

set_option maxHeartbeats 1000000 in
theorem uint_any (n : Nat) (hn : n < 18446744073709551616) : ∀ w : World,
    Calls Tryz.prog 51 #[.int .u64 (n : Int)] w fun e w' => ∃ v ao cap, e = .returned v ∧ v = .slice ao (uv n).length cap ∧ w'.ownsRow w.heap.size 5 1 (.slice ao (uv n).length cap) (uv n).length ((uv n).map u8v) ∧ Upd [] w w' := by
  induction n using Nat.strongRecOn with
  | _ n ih =>
    intro w
    by_cases h : n < 128
    · have hd : decide ((n : Int) < 128) = true := by simp; omega
      have hu := hide (uv_last h)
      go_enter Tryz.func51, Tryz.ntmps51
      go_wp2_with fail
      go_ret
      refine ⟨_, some ⟨w.heap.size, 0, none⟩, 1, rfl, by rw [hu.out]; rfl, ?_, (Upd.refl _ _).alloc _⟩
      rw [hu.out]
      exact owns_block (blk_new w _) (Nat.le_refl _) (by simp [u8v]; omega) rfl (by simp [maxLen])
    · have hd : decide ((n : Int) < 128) = false := by simp; omega
      have hu := hide (uv_more (n := n) (by omega))
      obtain ⟨q, hq⟩ : ∃ q, n / 128 = q := ⟨_, rfl⟩
      obtain ⟨r, hr⟩ : ∃ r, n % 128 = r := ⟨_, rfl⟩
      have e1 : (n : Int) / 128 = (q : Int) := by omega
      have e2 : (n : Int) % 128 = (r : Int) := by omega
      have hrl : r < 128 := by omega
      have IH := hide (ih q (by omega) (by omega))
      rw [hq, hr] at hu
      have hul : (uv q).length ≤ 10 := uv_len10 (by omega)
      clear ih hq hr
      obtain ⟨i0, hi, hz0, hz1, hz2⟩ := info_parts infoB
      go_enter Tryz.func51, Tryz.ntmps51
      go_wp2_with fail
      refine (IH.out _).mono ?_
      rintro e w1 ⟨v, ao, cap, rfl, rfl, ho, hu1⟩
      have hb := hu1.get (blk_new w (.cells #[.int .u8 (128 + (r : Int))] 5)) (by simp)
      have hs := src_own ho (by simp [u8v, Value.oneCell'])
      have HB := hide (owns_block (base := w.heap.size) (n := 1) (xs := [.int .u8 (128 + (r : Int))]) hb (Nat.le_refl _) rfl rfl (by simp [maxLen])); have HS := hide hs; have HU := hide (((Upd.refl [] w).alloc (.cells #[.int .u8 (128 + (r : Int))] 5)).trans hu1)
      clear ho hu1 hb hs IH
      go_wp2_with (at_builtin; go_must (refine wpList_append_src _ rfl _ _ 39 rfl w.heap.size 5 i0 (.int .u8 0) 1 1 Tryz.underlying39 hi hz0 hz1 hz2 rfl (by decide) (.slice (some ⟨w.heap.size, 0, none⟩) 1 1) 1 [.int .u8 (128 + (r : Int))] rfl HB.out ao (uv q).length cap ((uv q).map u8v) rfl HS.out (by unfold maxLen; omega) (by omega) (HU.out.size) ?_))
      intro ao2 cap2 w2 hown2 hU2 hn2
      have O2 := hide hown2; have U2 := hide hU2
      clear hown2 hU2 hn2
      go_wp2_with fail
      go_ret
      have e3 : (uv n).length = 1 + (uv q).length := by rw [hu.out]; simp; omega
      refine ⟨_, ao2, cap2, rfl, by rw [e3]; rfl, ?_, HU.out.trans_new U2.out (by simp [Value.ownBlock])⟩
      rw [e3, hu.out]
      have := O2.out
      simp only [List.map_cons, u8v]
      rw [ofNat8 (by omega)]
      simpa using this

set_option maxHeartbeats 400000 in
theorem same_any {ao bo : Option Addr} {m n c d : Nat} {xs bs : List UInt8} (w : World) (ha : SrcAt w ao m c (xs.map u8v) 1) (hb : SrcAt w bo n d (bs.map u8v) 1) :
    Calls Tryz.prog 114 #[.slice ao m c, .slice bo n d] w fun e w' => e = .returned (.bool (decide (xs = bs))) ∧ w = w' := by
  have h1 := run_str ha
  have h2 := run_str hb
  have h3 := strOf_eq xs bs
  clear ha hb
  go_enter Tryz.func114, Tryz.ntmps114
  go_wp2_with fail
  go_ret
  exact ⟨rfl, rfl⟩

set_option maxRecDepth 100000 in
set_option maxHeartbeats 4000000 in
theorem take_any {xo : Option Addr} {m c : Nat} {bs : List UInt8} (w : World) (hs : SrcAt w xo m c (bs.map u8v) 1) (hmc : m ≤ c) (hc : c ≤ maxLen) :
    Calls Tryz.prog 100 #[.slice xo m c] w fun e w' => e = .returned (.tuple #[.int .u64 ((rd bs).1 : Nat), .int .i64 ((rd bs).2.1 : Nat), .int .i64 (rd bs).2.2]) ∧ Upd [] w w' := by
  have hlen : bs.length = m := by have := hs.len; simpa using this
  have HS := hide hs; have HL := hide hlen
  unfold maxLen at hc
  clear hs hlen
  go_enter Tryz.func100, Tryz.ntmps100
  go_wp2_with fail
  go_loop [5] (fun sk => ∃ k : Nat, k ≤ m ∧ k ≤ 10 ∧ sk = .int .i64 k ∧ ∀ i, i < k → 128 ≤ (bs.getD i 0).toNat) (fun sk => 10 - (intOf sk).toNat)
  case atStart => exact ⟨0, by omega, by omega, rfl, by omega⟩
  case round =>
    obtain ⟨k, hkm, hk10, rfl, hhi⟩ := hrel
    have HHI := hide hhi
    clear hhi
    by_cases hgo : k < m ∧ k < 10 ∧ 128 ≤ (bs.getD k 0).toNat
    · obtain ⟨g1, g2, g3⟩ := hgo
      obtain ⟨b, off, rfl, hcell⟩ := src_at HS.out g1
      have d1 : decide ((k : Int) < m) = true := by simp; omega
      have d1' : decide (k < m) = true := by simpa using g1
      have d2 : decide ((k : Int) < 10) = true := by simp; omega
      have HG := hide g3
      obtain ⟨x, hx⟩ : ∃ x, (bs.getD k 0).toNat = x := ⟨_, rfl⟩
      rw [hx] at hcell g3
      have d3 : decide ((128 : Int) ≤ x) = true := by simp; omega
      clear hx
      go_wp2_with fail
      go_round
      case rel => exact ⟨k + 1, by omega, by omega, by go_num, fun i hi => by
        by_cases h : i = k
        · subst h; exact HG.out
        · exact HHI.out i (by omega)⟩
      case measure => simp [intOf]; omega
    · by_cases k10 : k = 10
      · have hrd : rd bs = (0, 0, 11) := by
          unfold rd
          rw [if_pos (.inl (by rw [← k10]; exact lead_ge HHI.out (by rw [HL.out]; exact hkm)))]
        have RD := hide hrd
        subst k10
        clear hrd hgo
        by_cases hm : 10 < m
        · have d1 : decide ((10 : Int) < m) = true := by simp; omega
          have d1' : decide (10 < m) = true := by simpa using hm
          go_wp2_with fail
          go_ret3
          exact ⟨by rw [RD.out]; rfl, Upd.refl _ _⟩
        · have d1 : decide ((10 : Int) < m) = false := by simp; omega
          have d1' : decide (10 < m) = false := by simpa using hm
          go_wp2_with fail
          go_ret3
          exact ⟨by rw [RD.out]; rfl, Upd.refl _ _⟩
      · by_cases km : k = m
        · have hrd : rd bs = (0, 0, 10) := by
            unfold rd
            have hle : lead bs = k := lead_eq HHI.out (by rw [HL.out]; exact hkm) (fun h => by rw [HL.out] at h; omega)
            have hbl := HL.out
            rw [hle, if_neg (by omega), if_pos (by omega)]
          have RD := hide hrd
          subst km
          have d3 : ((k : Int) == 10) = false := by simp; omega
          have d4 : ((k : Int) == 9) = true ∨ ((k : Int) == 9) = false := by cases ((k : Int) == 9) <;> simp
          clear hrd hgo
          rcases d4 with d4 | d4
          all_goals
            go_wp2_with fail
            go_ret3
            exact ⟨by rw [RD.out]; rfl, Upd.refl _ _⟩
        · have g1 : k < m := by omega
          have g2 : k < 10 := by omega
          obtain ⟨b, off, rfl, hcell⟩ := src_at HS.out g1
          have g3 : (bs.getD k 0).toNat < 128 := by omega
          have hle : lead bs = k := lead_eq HHI.out (by rw [HL.out]; exact hkm) (fun _ => g3)
          have HLE := hide hle
          obtain ⟨x, hx⟩ : ∃ x, (bs.getD k 0).toNat = x := ⟨_, rfl⟩
          rw [hx] at hcell g3
          have HX := hide hx
          have d1 : decide ((k : Int) < m) = true := by simp; omega
          have d1' : decide (k < m) = true := by simpa using g1
          have d2 : decide ((k : Int) < 10) = true := by simp; omega
          have d3 : decide ((128 : Int) ≤ x) = false := by simp; omega
          have d4 : ((k : Int) == 10) = false := by simp; omega
          have d5 : ((k : Int) == m) = false := by simp; omega
          clear hle hx hgo
          by_cases k9 : k = 9 ∧ 1 < x
          · obtain ⟨k9, hx1⟩ := k9
            have hrd : rd bs = (0, 0, 11) := by
              unfold rd
              have h1 := HLE.out
              have h2 := HX.out
              have h3 := HL.out
              subst k9
              rw [if_pos (.inr ⟨h1, by omega, by omega⟩)]
            have RD := hide hrd
            subst k9
            have d6 : decide ((1 : Int) < x) = true := by simp; omega
            have d7 : decide (9 < m) = true := by simpa using g1
            have d8 : decide ((9 : Int) < m) = true := by simp; omega
            clear hrd
            go_wp2_with fail
            go_ret3
            exact ⟨by rw [RD.out]; rfl, Upd.refl _ _⟩
          · have d6 : ((k : Int) == 9) = false ∨ (((k : Int) == 9) = true ∧ decide ((1 : Int) < x) = false ∧ w.cell? ⟨b, off + 9, none⟩ = some (.int .u8 (x : Int)) ∧ 9 < m) := by
              by_cases h : k = 9
              · exact .inr ⟨by simp; omega, by simp; omega, by rw [← h]; exact hcell, by omega⟩
              · exact .inl (by simp; omega)
            have hnl : ¬ (10 ≤ lead bs ∨ (lead bs = 9 ∧ 9 < bs.length ∧ 1 < (bs.getD 9 0).toNat)) := by
              have h1 := HLE.out
              have h2 := HX.out
              rintro (h | ⟨h, -, h'⟩)
              · omega
              · have h3 : k = 9 := by omega
                rw [← h3] at h'
                omega
            have hltb : lead bs < bs.length := by rw [HLE.out, HL.out]; exact g1
            have hvlt := rd_take_lt hnl hltb
            have halike := rd_alike hltb
            have hrd : rd bs = if 0 < lead bs ∧ (bs.getD (lead bs) 0).toNat = 0 then (0, 0, 11) else (val (bs.take (lead bs + 1)), lead bs + 1, 0) := by
              conv => lhs; unfold rd
              rw [if_neg hnl, if_neg (by omega)]
            rw [HLE.out] at hvlt halike hrd
            obtain ⟨l, hl⟩ : ∃ l, bs.take (k + 1) = l := ⟨_, rfl⟩
            rw [hl] at hvlt halike hrd
            have hll : l.length = k + 1 := by rw [← hl, List.length_take, HL.out]; omega
            have hlg : ∀ i, i < k + 1 → l.getD i 0 = bs.getD i 0 := fun i hi => by rw [← hl]; simp [List.getD_eq_getElem?_getD, hi]
            have HAL := hide halike; have HRD := hide hrd; have HLL := hide hll; have HLG := hide hlg; have HBT := hide hl
            clear k9 hnl hltb halike hrd hll hlg hl
            rcases d6 with d6 | ⟨d6, d7, d8, d9⟩
            all_goals
              go_wp2_with fail
              go_loop [6, 7] (fun sn si => ∃ j : Nat, j ≤ k + 1 ∧ si = .int .i64 ((j : Int) - 1) ∧ sn = .int .u64 (val (l.drop j) : Nat)) (fun _ si => (intOf si + 1).toNat)
              case atStart => exact ⟨k + 1, by omega, by simp, by rw [List.drop_eq_nil_of_le (by rw [HLL.out]; exact Nat.le_refl _)]; rfl⟩
              case round =>
                obtain ⟨j, hj, rfl, rfl⟩ := hrel
                by_cases hj0 : 1 ≤ j
                · obtain ⟨q, rfl⟩ : ∃ q, j = q + 1 := ⟨j - 1, by omega⟩
                  have hvd := val_drop l q (by rw [HLL.out]; omega)
                  have hvl := val_drop_le l q
                  rw [HLG.out q (by omega)] at hvd
                  obtain ⟨b', off', e', hcq⟩ := src_at (j := q) HS.out (by omega)
                  cases e'
                  obtain ⟨y, hy⟩ : ∃ y, (bs.getD q 0).toNat = y := ⟨_, rfl⟩
                  have hyl : y < 256 := by rw [← hy]; exact UInt8.toNat_lt _
                  rw [hy] at hcq hvd
                  obtain ⟨v, hv⟩ : ∃ v, val (l.drop (q + 1)) = v := ⟨_, rfl⟩
                  rw [hv] at hvd ⊢
                  obtain ⟨z, hz⟩ : ∃ z, y % 128 = z := ⟨_, rfl⟩
                  have e0 : ((q + 1 : Nat) : Int) - 1 = (q : Int) := by omega
                  have e1 : Go.bits .and .u8 (y : Int) 127 = (z : Int) := by
                    rw [show (127 : Int) = ((127 : Nat) : Int) from rfl, u8_and_nat _ _ hyl (by decide), nat_mask7, hz]
                  have hzl : z < 128 := by omega
                  rw [hz] at hvd
                  have e2 : Go.bits .or .u64 (IntKind.u64.wrap ((v : Int) * 128)) (z : Int) = ((val (l.drop q) : Nat) : Int) := by
                    rw [IntKind.wrap_u64, show ((v : Int) * 128) % 18446744073709551616 = ((128 * v : Nat) : Int) by omega, u64_or_nat _ _ (by omega) (by omega), nat_join 7 _ _ (by omega) hzl]
                    rw [hvd]; congr 1; omega
                  have hqk : q < m := by omega
                  have HVD := hide hvd
                  clear hvd hy hv hz hvl
                  rw [e0]
                  go_wp2_with fail
                  go_round
                  case rel => exact ⟨q, by omega, rfl, rfl⟩
                  case measure => simp [intOf]
                · obtain rfl : j = 0 := by omega
                  obtain ⟨v, hv⟩ : ∃ v, val (l.drop 0) = v := ⟨_, rfl⟩
                  have hvl : val l = v := by rw [← hv]; rfl
                  rw [hv, show (((0 : Nat) : Int) - 1) = -1 from rfl]
                  rw [hvl] at hvlt
                  have HVL := hide hvl
                  have r1 := run_cut_h (P := Tryz.prog) 39 5 Tryz.underlying39 sizeB (some ⟨b, off, none⟩) m c (k + 1) ((k : Int) + 1) (by omega) (by omega)
                  have hwk : IntKind.i64.wrap ((k : Int) + 1) = (k : Int) + 1 := IntWalk.i64_in _ (by omega)
                  clear hv hj hj0
                  go_wp2_with fail
                  refine wp_region_z (fun _ => True) 99 (by kernel_rfl) ?_
                  refine wpAnyZ_takeE 0 rfl (by kernel_rfl) (by kernel_rfl) (by kernel_rfl) (by kernel_rfl) (fun _ _ _ _ h => h) rfl (by exact trivial) ?_
                  apply Exists.intro
                  refine ⟨fun wx hS => ?_, ?_⟩
                  · go_simp; rfl
                  simp only [Act.put, List.setIfInBounds_toArray, List.set_cons_succ, List.set_cons_zero, List.getElem_toArray, List.getElem_cons_zero]
                  refine wpAnyZ_takeE 2 rfl (by kernel_rfl) (by kernel_rfl) (by kernel_rfl) (by kernel_rfl) (fun _ _ _ _ h => h) rfl (by exact trivial) ?_
                  apply Exists.intro
                  refine ⟨fun wx hS => ?_, ?_⟩
                  · go_simp; rfl
                  simp only [Act.put, List.setIfInBounds_toArray, List.set_cons_succ, List.set_cons_zero, List.getElem_toArray, List.getElem_cons_succ, List.getElem_cons_zero]
                  refine wpAnyZ_takeE 3 rfl (by kernel_rfl) (by kernel_rfl) (by kernel_rfl) (by kernel_rfl) (fun _ _ _ _ h => h) rfl (by exact trivial) ?_
                  apply Exists.intro
                  refine ⟨fun wx hS => ?_, ?_⟩
                  · go_simp; rfl
                  simp only [Act.put, List.setIfInBounds_toArray, List.set_cons_succ, List.set_cons_zero, List.getElem_toArray, List.getElem_cons_succ, List.getElem_cons_zero]
                  refine wpAnyZ_takeE 4 rfl (by kernel_rfl) (by kernel_rfl) (by kernel_rfl) (by kernel_rfl) (fun _ _ _ _ h => h) rfl (by exact trivial) ?_
                  apply Exists.intro
                  refine ⟨fun wx hS => ?_, ?_⟩
                  · go_simp; rfl
                  simp only [Act.put, List.setIfInBounds_toArray, List.set_cons_succ, List.set_cons_zero, List.getElem_toArray, List.getElem_cons_succ, List.getElem_cons_zero]
                  refine wpAnyZ_takeE 5 rfl (by kernel_rfl) (by kernel_rfl) (by kernel_rfl) (by kernel_rfl) (fun _ _ _ _ h => h) rfl (by exact trivial) ?_
                  apply Exists.intro
                  refine ⟨fun wx hS => ?_, ?_⟩
                  · go_simp; rfl
                  simp only [Act.put, List.setIfInBounds_toArray, List.set_cons_succ, List.set_cons_zero, List.getElem_toArray, List.getElem_cons_succ, List.getElem_cons_zero]
                  refine wpAnyZ_one 1 (by kernel_rfl) rfl rfl (fun K hK => ?_)
                  try simp only [List.getElem_toArray, List.getElem_cons_succ, List.getElem_cons_zero]
                  go_simp
                  refine (uint_any v (by omega) _).mono ?_
                  rintro e w2 ⟨v2, ao2, cap2, rfl, rfl, ho2, hu2⟩
                  have O2 := hide ho2; have U2 := hide (((Upd.refl [] w).drewN 1).trans hu2)
                  clear ho2 hu2
                  refine hK _ _ (.inr trivial) ?_
                  clear hK K
                  try simp only [Act.put, List.setIfInBounds_toArray, List.set_cons_succ, List.set_cons_zero]
                  refine wpAnyZ_one 6 (by kernel_rfl) rfl rfl (fun K hK => ?_)
                  try simp only [List.getElem_toArray, List.getElem_cons_succ, List.getElem_cons_zero]
                  go_simp
                  refine (same_any _ (src_own O2.out (by simp [u8v, Value.oneCell'])) (src_head (src_upd_nil HS.out U2.out) (by omega) hmc)).mono ?_
                  rw [HBT.out]
                  rintro e w3 ⟨rfl, rfl⟩
                  have HD : Hid (decide (uv v = l) = decide (¬ (0 < k ∧ (bs.getD k 0).toNat = 0))) := by
                    show decide (uv v = l) = _
                    rw [← HVL.out]
                    exact decide_eq_decide.2 HAL.out
                  rw [HD.out]
                  refine hK _ _ (.inr trivial) ?_
                  clear hK K
                  try simp only [Act.put, List.setIfInBounds_toArray, List.set_cons_succ, List.set_cons_zero]
                  by_cases hz : 0 < k ∧ (bs.getD k 0).toNat = 0
                  · have hdz : decide (¬ (0 < k ∧ (bs.getD k 0).toNat = 0)) = false := decide_eq_false (fun h => h hz)
                    have RD : Hid (rd bs = (0, 0, 11)) := by
                      show rd bs = _
                      rw [HRD.out, if_pos hz]
                    rw [hdz]
                    clear hz hdz
                    refine wpAnyZ_takeE 7 rfl (by kernel_rfl) (by kernel_rfl) (by kernel_rfl) (by kernel_rfl) (fun _ _ _ _ h => h) rfl (by exact trivial) ?_
                    apply Exists.intro
                    refine ⟨fun wx hS => ?_, ?_⟩
                    · go_simp; rfl
                    simp only [Act.put, List.setIfInBounds_toArray, List.set_cons_succ, List.set_cons_zero, List.getElem_toArray, List.getElem_cons_succ, List.getElem_cons_zero]
                    refine wpAnyZ_done (by kernel_rfl) ?_ _
                    go_wp2_with fail
                    go_ret3
                    exact ⟨by rw [RD.out]; rfl, U2.out⟩
                  · have hdz : decide (¬ (0 < k ∧ (bs.getD k 0).toNat = 0)) = true := decide_eq_true hz
                    have RD : Hid (rd bs = (v, k + 1, 0)) := by
                      show rd bs = _
                      rw [HRD.out, if_neg hz, HVL.out]
                    rw [hdz]
                    clear hz hdz
                    refine wpAnyZ_takeE 7 rfl (by kernel_rfl) (by kernel_rfl) (by kernel_rfl) (by kernel_rfl) (fun _ _ _ _ h => h) rfl (by exact trivial) ?_
                    apply Exists.intro
                    refine ⟨fun wx hS => ?_, ?_⟩
                    · go_simp; rfl
                    simp only [Act.put, List.setIfInBounds_toArray, List.set_cons_succ, List.set_cons_zero, List.getElem_toArray, List.getElem_cons_succ, List.getElem_cons_zero]
                    refine wpAnyZ_done (by kernel_rfl) ?_ _
                    go_wp2_with fail
                    go_ret3
                    exact ⟨by rw [RD.out]; rfl, U2.out⟩
end Go.Proofs.YtekbhfpdakhhkaaGreatDoor.Ref
namespace Go.Proofs.YtekbhfpdakhhkaaGreatDoor.Crc
open Go.RowKit

set_option maxHeartbeats 1000000 in
theorem ref_any {xo : Option Addr} {m cp : Nat} {bs : List UInt8} (w : World) (hs : SrcAt w xo m cp (bs.map u8v) 1) (hm : m ≤ maxLen) :
    Calls Tryz.prog 50 #[.slice xo m cp] w fun e w' => e = .returned (.int .u32 (sum bs : Nat)) ∧ w = w' := by
  have hlen : bs.length = m := by have := hs.len; simpa using this
  have HL := hide hlen
  have HS := hide hs
  unfold maxLen at hm
  clear hlen hs
  go_enter Tryz.func50, Tryz.ntmps50
  go_wp2_with fail
  go_loop [3, 4] (fun sc i => ∃ k : Nat, k ≤ m ∧ i = .int .i64 k ∧ sc = .int .u32 (run 4294967295 (bs.take k) : Nat)) (fun _ i => m - (intOf i).toNat)
  case atStart => exact ⟨0, by omega, rfl, rfl⟩
  case round =>
    obtain ⟨k, hk, rfl, rfl⟩ := hrel
    have hc1 : run 4294967295 (bs.take k) < 4294967296 := run_lt (by decide) _
    generalize hr : run 4294967295 (bs.take k) = c at *
    have HR := hide hr
    clear hr
    by_cases hlt : k < m
    · obtain ⟨b, off, rfl, hcell⟩ := src_at HS.out hlt
      generalize hx : bs.getD k 0 = x at *
      have HX := hide hx
      have hxl := x.toNat_lt
      have e2 : Go.bits .xor .u32 (c : Int) (x.toNat : Int) = ((c ^^^ x.toNat : Nat) : Int) := u32_xor_nat _ _ hc1 (by omega)
      have hd : decide ((k : Int) < m) = true := by simp; omega
      have hy1 : c ^^^ x.toNat < 4294967296 := xor_lt hc1 (by omega)
      generalize hy : c ^^^ x.toNat = y at *
      have HY := hide hy
      clear hx hy
      go_wp2_with fail
      go_loop [3, 5] (fun sc i => ∃ j : Nat, j ≤ 8 ∧ i = .int .i64 j ∧ sc = .int .u32 (bits j y : Nat)) (fun _ i => 8 - (intOf i).toNat)
      case atStart => exact ⟨0, by omega, rfl, rfl⟩
      case round =>
        obtain ⟨j, hj, rfl, rfl⟩ := hrel
        have hz1 : bits j y < 4294967296 := bits_lt j hy1
        generalize hz : bits j y = z at *
        have HZ := hide hz
        clear hz
        by_cases hj8 : j < 8
        · have hd2 : decide ((j : Int) < 8) = true := by simp; omega
          have e3 : Go.bits .and .u32 (z : Int) 1 = ((z % 2 : Nat) : Int) := by
            rw [show (1 : Int) = ((1 : Nat) : Int) from rfl, u32_and_nat _ _ hz1 (by decide), nat_mask1]
          obtain ⟨v, hv⟩ : ∃ v, z / 2 = v := ⟨_, rfl⟩
          have e4 : (z : Int) / 2 = (v : Int) := by omega
          have e5 : Go.bits .xor .u32 (v : Int) 2197175160 = ((v ^^^ P : Nat) : Int) := by
            rw [show (2197175160 : Int) = ((P : Nat) : Int) from rfl, u32_xor_nat _ _ (by omega) (by decide)]
          generalize hq : v ^^^ P = q at *
          have HV := hide hv; have HQ := hide hq
          clear hv hq
          rcases Nat.mod_two_eq_zero_or_one z with h2 | h2
          · rw [h2] at e3
            have HB : Hid (bits (j + 1) y = v) := by simp only [bits, HZ.out, bit, h2]; exact HV.out
            clear h2
            go_wp2_with fail
            go_round
            case rel => exact ⟨j + 1, by omega, by go_num, by rw [HB.out]⟩
            case measure => simp [intOf]; omega
          · rw [h2] at e3
            have HB : Hid (bits (j + 1) y = q) := by simp only [bits, HZ.out, bit, h2, if_true]; rw [HV.out]; exact HQ.out
            clear h2
            go_wp2_with fail
            go_round
            case rel => exact ⟨j + 1, by omega, by go_num, by rw [HB.out]⟩
            case measure => simp [intOf]; omega
        · have hd2 : decide ((j : Int) < 8) = false := by simp; omega
          have hj88 : j = 8 := by omega
          have HB : Hid (run 4294967295 (bs.take (k + 1)) = z) := by
            show run 4294967295 (bs.take (k + 1)) = z
            rw [take_snoc8 _ _ (by rw [HL.out]; exact hlt), run_snoc, HR.out, HX.out, byte_bits _ _ hxl, HY.out, ← HZ.out, hj88]
          clear hj88
          go_wp2_with fail
          go_round
          case rel => exact ⟨k + 1, by omega, by go_num, by rw [HB.out]⟩
          case measure => simp [intOf]; omega
    · have hd : decide ((k : Int) < m) = false := by simp; omega
      have e2 : Go.bits .xor .u32 (c : Int) 4294967295 = ((4294967295 ^^^ c : Nat) : Int) := by
        rw [show (4294967295 : Int) = ((4294967295 : Nat) : Int) from rfl, u32_xor_nat _ _ hc1 (by decide), Nat.xor_comm]
      have hrun : run 4294967295 bs = c := by rw [← HR.out, List.take_of_length_le (by have := HL.out; omega)]
      have HE := hide hrun
      clear hrun
      go_wp2_with fail
      go_ret
      rw [sum, HE.out]
      exact ⟨rfl, rfl⟩
end Go.Proofs.YtekbhfpdakhhkaaGreatDoor.Crc
namespace Go.Proofs.YtekbhfpdakhhkaaGreatDoor.Ref
open Go.RowKit Go.Proofs.YtekbhfpdakhhkaaGreatDoor.Var Go.Proofs.YtekbhfpdakhhkaaGreatDoor.Crc Go.Proofs.YtekbhfpdakhhkaaGreatDoor.Fr

set_option maxHeartbeats 1000000 in
theorem frame_any {xo : Option Addr} {m c : Nat} {bs : List UInt8} (w : World) (hs : SrcAt w xo m c (bs.map u8v) 1) (hm : m ≤ 1000000000000) :
    Calls Tryz.prog 26 #[.slice xo m c] w fun e w' => ∃ v ao cap, e = .returned v ∧ v = .slice ao (fr bs).length cap ∧ w'.ownsRow w.heap.size 5 1 (.slice ao (fr bs).length cap) (fr bs).length ((fr bs).map u8v) ∧ Upd [] w w' := by
  have hlen : bs.length = m := by have := hs.len; simpa using this
  have HS := hide hs; have HL := hide hlen
  obtain ⟨i0, hi, hz0, hz1, hz2⟩ := info_parts infoB
  clear hs hlen
  go_enter Tryz.func26, Tryz.ntmps26
  go_wp2_with fail
  refine (ref_any _ HS.out (by unfold maxLen; omega)).mono ?_
  rintro e w1 ⟨rfl, rfl⟩
  go_wp2_with fail
  refine (uint_any m (by omega) _).mono ?_
  rintro e w2 ⟨v2, ao2, cap2, rfl, rfl, ho2, hu2⟩
  have O2 := hide ho2; have U2 := hide hu2
  clear ho2 hu2
  obtain ⟨z0, hz0'⟩ : ∃ z, Crc.sum bs % 256 = z := ⟨_, rfl⟩
  obtain ⟨z1, hz1'⟩ : ∃ z, Crc.sum bs / 256 % 256 = z := ⟨_, rfl⟩
  obtain ⟨z2, hz2'⟩ : ∃ z, Crc.sum bs / 65536 % 256 = z := ⟨_, rfl⟩
  obtain ⟨z3, hz3'⟩ : ∃ z, Crc.sum bs / 16777216 = z := ⟨_, rfl⟩
  have hsl := sum_lt bs
  obtain ⟨s, hss⟩ : ∃ s, Crc.sum bs = s := ⟨_, rfl⟩
  rw [hss] at hz0' hz1' hz2' hz3' hsl ⊢
  have HSS := hide hss
  have e0 : (s : Int) % 256 = (z0 : Int) := by omega
  have e1 : (s : Int) / 256 % 256 = (z1 : Int) := by omega
  have e2 : (s : Int) / 65536 % 256 = (z2 : Int) := by omega
  have e3 : (s : Int) / 16777216 = (z3 : Int) := by omega
  have l0 : z0 < 256 := by omega
  have l1 : z1 < 256 := by omega
  have l2 : z2 < 256 := by omega
  have l3 : z3 < 256 := by omega
  have HZS := hide (And.intro hz0' (And.intro hz1' (And.intro hz2' hz3')))
  have hul : (uv m).length ≤ 10 := uv_len10 (by omega)
  clear hz0' hz1' hz2' hz3' hss
  go_wp2_with (at_builtin; go_must (refine wpList_append_src _ rfl _ _ 39 rfl w.heap.size 5 i0 (.int .u8 0) 1 1 Tryz.underlying39 hi hz0 hz1 hz2 rfl (by decide) (.slice ao2 (uv m).length cap2) (uv m).length ((uv m).map u8v) rfl (O2.out.alloc _) (some ⟨w2.heap.size, 0, none⟩) 4 4 ([UInt8.ofNat z0, UInt8.ofNat z1, UInt8.ofNat z2, UInt8.ofNat z3].map u8v) rfl (src_block (blk_new w2 _) (by simp [u8v]; omega) rfl) (by unfold maxLen; omega) (by omega) (Nat.le_trans U2.out.size (by simp)) ?_))
  intro ao3 cap3 w3 hown3 hU3 hn3
  have hU3' : Upd [] w w3 := (U2.out.alloc _).trans_new hU3 (fun k hk => by
    simp only [Option.mem_toList] at hk
    exact .inr (owns_lt O2.out k hk).1)
  have O3 := hide hown3; have U3 := hide hU3'
  clear hown3 hU3 hn3 hU3'
  have S3 := hide (src_upd_nil HS.out U3.out)
  go_wp2_with (at_builtin; go_must (refine wpList_append_src _ rfl _ _ 39 rfl w.heap.size 5 i0 (.int .u8 0) 1 1 Tryz.underlying39 hi hz0 hz1 hz2 rfl (by decide) (.slice ao3 ((uv m).length + 4) cap3) ((uv m).length + 4) _ rfl O3.out xo m c (bs.map u8v) rfl S3.out (by unfold maxLen; omega) (by omega) (U3.out.size) ?_))
  intro ao4 cap4 w4 hown4 hU4 hn4
  have hU4' : Upd [] w w4 := U3.out.trans_new hU4 (fun k hk => by
    simp only [Option.mem_toList] at hk
    exact .inr (owns_lt O3.out k hk).1)
  have O4 := hide hown4; have U4 := hide hU4'
  clear hown4 hU4 hn4 hU4'
  go_wp2_with fail
  go_ret
  have e5 : (fr bs).length = (uv m).length + 4 + m := by rw [fr_len, HL.out]
  have e6 : fr bs = uv m ++ [UInt8.ofNat z0, UInt8.ofNat z1, UInt8.ofNat z2, UInt8.ofNat z3] ++ bs := by
    obtain ⟨k0, k1, k2, k3⟩ := HZS.out
    unfold fr
    rw [HL.out, HSS.out]
    simp only [le4, k0, k1, k2]
    rw [Nat.mod_eq_of_lt (by omega), k3]
  refine ⟨_, ao4, cap4, rfl, by rw [e5]; rfl, ?_, U4.out⟩
  rw [e5, e6]
  have := O4.out
  simpa using this

/-- What the document's Take answers, of bytes that lie at a slice. -/
def TakeSays (w : World) (xo : Option Addr) (c : Nat) (bs : List UInt8) (e : Ending) (w' : World) : Prop :=
  Upd [] w w' ∧ (((take bs).2.2 ≠ 0 ∧ e = .returned (.tuple #[.slice none 0 0, .int .i64 0, .int .i64 (take bs).2.2])) ∨
    ((take bs).2.2 = 0 ∧ ∃ l n : Nat, n = (take bs).1.length ∧ l + n = (take bs).2.1 ∧ e = .returned (.tuple #[.slice (cutAt xo l c) n (c - l), .int .i64 ((take bs).2.1 : Nat), .int .i64 0]) ∧ SrcAt w (cutAt xo l c) n (c - l) ((take bs).1.map u8v) 1 ∧ n ≤ c - l))
set_option maxRecDepth 100000 in
set_option maxHeartbeats 4000000 in
theorem take3_any {xo : Option Addr} {m c : Nat} {bs : List UInt8} (w : World) (hs : SrcAt w xo m c (bs.map u8v) 1) (hmc : m ≤ c) (hc : c ≤ maxLen) :
    Calls Tryz.prog 76 #[.slice xo m c] w fun e w' => TakeSays w xo c bs e w' := by
  have hlen : bs.length = m := by have := hs.len; simpa using this
  have HS := hide hs; have HL := hide hlen
  have H := hide (take_any w hs hmc hc)
  unfold maxLen at hc
  clear hs hlen
  obtain ⟨n, k, er, hrd⟩ : ∃ n k er, rd bs = (n, k, er) := ⟨_, _, _, rfl⟩
  rw [hrd] at H
  have RD := hide hrd
  clear hrd
  go_enter Tryz.func76, Tryz.ntmps76
  go_wp2_with fail
  refine H.out.mono ?_
  rintro e w1 ⟨rfl, hu1⟩
  have U1 := hide hu1
  clear hu1 H
  by_cases her : er = 0
  · subst her
    obtain ⟨hk0, hk10, hkl, huv, hn64⟩ := rd_ok RD.out rfl
    have HUV := hide huv
    rw [HL.out] at hkl
    clear huv
    by_cases hn0 : n = 0 ∨ 65536 < n
    · have HT : Hid (take bs = ([], 0, 11)) := by
        show take bs = ([], 0, 11)
        unfold take
        rw [RD.out, if_neg (by simp), if_pos hn0]
      have q0 : decide ((n : Int) < 1) = true ∨ decide ((n : Int) < 1) = false ∧ decide ((65536 : Int) < n) = true := by
        rcases hn0 with h | h
        · exact .inl (by simp; omega)
        · exact .inr ⟨by simp; omega, by simp; omega⟩
      clear hn0
      rcases q0 with q0 | ⟨q0, q1⟩
      all_goals
        go_wp2_with fail
        go_ret3
        exact ⟨U1.out, .inl ⟨by rw [HT.out]; simp, by rw [HT.out]; rfl⟩⟩
    · have q0 : decide ((n : Int) < 1) = false := by simp; omega
      have q1 : decide ((65536 : Int) < n) = false := by simp; omega
      have hnb : n ≤ 65536 := by omega
      have hnp : 0 < n := by omega
      by_cases hsh : m < k + 4 + n
      · have HT : Hid (take bs = ([], 0, 10)) := by
          show take bs = ([], 0, 10)
          unfold take
          rw [RD.out, if_neg (by simp), if_neg hn0, if_pos (by rw [HL.out]; exact hsh)]
        have q2 : decide ((m : Int) < k + 4 + n) = true := by simp; omega
        clear hn0
        go_wp2_with fail
        go_ret3
        exact ⟨U1.out, .inl ⟨by rw [HT.out]; simp, by rw [HT.out]; rfl⟩⟩
      · have q2 : decide ((m : Int) < k + 4 + n) = false := by simp; omega
        have HT0 : Hid (¬ (n = 0 ∨ 65536 < n)) := hide hn0
        clear hn0
        have r1 := run_cut_lh (P := Tryz.prog) 39 5 Tryz.underlying39 sizeB xo m c (k + 4) (k + 4 + n) ((k : Int) + 4) ((k : Int) + 4 + n) (by omega) (by omega) (by omega) (by omega)
        rw [show k + 4 + n - (k + 4) = n from by omega] at r1
        have r2 := run_cut_h (P := Tryz.prog) 39 5 Tryz.underlying39 sizeB xo m c (k + 4 + n) ((k : Int) + 4 + n) (by omega) (by omega)
        go_upto_region 10 with fail
        have hin := src_cut (l := k + 4) (h := k + 4 + n) (q := c) HS.out (by omega) (by omega) (by omega) (Nat.le_refl _)
        rw [show k + 4 + n - (k + 4) = n by omega] at hin
        have hhd := src_head (h := k + 4 + n) HS.out (by omega) hmc
        obtain ⟨ins, hins⟩ : ∃ ins, (bs.drop (k + 4)).take n = ins := ⟨_, rfl⟩
        rw [hins] at hin
        have HIN := hide hin; have HHD := hide hhd; have HINS := hide hins
        have hst := run_str (src_upd_nil hhd (U1.out.drewN 1))
        have hin2 := src_upd_nil hin (U1.out.drewN 1)
        clear hin hhd hins r1
        refine wp_region_z (fun w' => (convert 39 9 (.slice xo (k + 4 + n) c)).run Tryz.prog w' = .ok (.string (strOf (bs.take (k + 4 + n)))) w') 99 (by kernel_rfl) ?_
        refine wpAnyZ_takeE 0 rfl (by kernel_rfl) (by kernel_rfl) (by kernel_rfl) (by kernel_rfl) (fun _ _ _ _ h => h) rfl (by exact hst) ?_
        apply Exists.intro
        refine ⟨fun wx hS => ?_, ?_⟩
        · have s0 := hS; go_simp; rfl
        simp only [Act.put, List.setIfInBounds_toArray, List.set_cons_succ, List.set_cons_zero, List.getElem_toArray, List.getElem_cons_zero]
        refine wpAnyZ_takeE 3 rfl (by kernel_rfl) (by kernel_rfl) (by kernel_rfl) (by kernel_rfl) (fun _ _ _ _ h => h) rfl (by exact hst) ?_
        apply Exists.intro
        refine ⟨fun wx hS => ?_, ?_⟩
        · have s0 := hS; go_simp; rfl
        simp only [Act.put, List.setIfInBounds_toArray, List.set_cons_succ, List.set_cons_zero, List.getElem_toArray, List.getElem_cons_succ, List.getElem_cons_zero]
        refine wpAnyZ_takeE 4 rfl (by kernel_rfl) (by kernel_rfl) (by kernel_rfl) (by kernel_rfl) (fun _ _ _ _ h => h) rfl (by exact hst) ?_
        apply Exists.intro
        refine ⟨fun wx hS => ?_, ?_⟩
        · have s0 := hS; go_simp; rfl
        simp only [Act.put, List.setIfInBounds_toArray, List.set_cons_succ, List.set_cons_zero, List.getElem_toArray, List.getElem_cons_succ, List.getElem_cons_zero]
        refine wpAnyZ_takeE 5 rfl (by kernel_rfl) (by kernel_rfl) (by kernel_rfl) (by kernel_rfl) (fun _ _ _ _ h => h) rfl (by exact hst) ?_
        apply Exists.intro
        refine ⟨fun wx hS => ?_, ?_⟩
        · have s0 := hS; go_simp; rfl
        simp only [Act.put, List.setIfInBounds_toArray, List.set_cons_succ, List.set_cons_zero, List.getElem_toArray, List.getElem_cons_succ, List.getElem_cons_zero]
        refine wpAnyZ_takeE 6 rfl (by kernel_rfl) (by kernel_rfl) (by kernel_rfl) (by kernel_rfl) (fun _ _ _ _ h => h) rfl (by exact hst) ?_
        apply Exists.intro
        refine ⟨fun wx hS => ?_, ?_⟩
        · have s0 := hS; go_simp; rfl
        simp only [Act.put, List.setIfInBounds_toArray, List.set_cons_succ, List.set_cons_zero, List.getElem_toArray, List.getElem_cons_succ, List.getElem_cons_zero]
        refine wpAnyZ_one 1 (by kernel_rfl) rfl rfl (fun K hK => ?_)
        try simp only [List.getElem_toArray, List.getElem_cons_succ, List.getElem_cons_zero]
        go_simp
        refine (frame_any _ hin2 (by omega)).mono ?_
        rintro e w2 ⟨v2, ao2, cap2, rfl, rfl, ho2, hu2⟩
        have U2 := hide ((U1.out.drewN 1).trans hu2)
        have hst2 := run_str (src_upd_nil HHD.out U2.out)
        have hst3 := run_str (src_own ho2 (by simp [u8v, Value.oneCell']))
        clear ho2 hu2 hst hin2
        refine hK _ _ (.inr hst2) ?_
        clear hK K
        try simp only [Act.put, List.setIfInBounds_toArray, List.set_cons_succ, List.set_cons_zero]
        have hfl : (fr ins = bs.take (k + 4 + n)) ↔ le4 (Crc.sum ins) = (bs.drop k).take 4 := by
          have hbl := HL.out
          have hil : ins.length = n := by have := HIN.out.len; simpa using this
          have e1 : bs.take (k + 4 + n) = bs.take k ++ (bs.drop k).take 4 ++ ins := by
            rw [Nat.add_assoc, List.take_add, List.take_add, List.drop_drop, HINS.out, List.append_assoc]
          unfold fr
          rw [e1, hil, HUV.out]
          constructor
          · intro h
            exact List.append_cancel_left (List.append_cancel_right h)
          · intro h; rw [h]
        obtain ⟨bb, hbb, hq⟩ : ∃ bb, decide (fr ins = bs.take (k + 4 + n)) = bb ∧ ((strOf (fr ins)).toList == (strOf (bs.take (k + 4 + n))).toList) = bb := ⟨_, rfl, strOf_eq _ _⟩
        have HBB := hide hbb; have HFL := hide hfl
        clear hbb hfl
        have HT1 : Hid (¬ bs.length < k + 4 + n) := by show ¬ bs.length < k + 4 + n; rw [HL.out]; exact hsh
        refine wpAnyZ_strong (S' := fun w' => (convert 39 9 (.slice ao2 (fr ins).length cap2)).run Tryz.prog w' = .ok (.string (strOf (fr ins))) w' ∧ (convert 39 9 (.slice xo (k + 4 + n) c)).run Tryz.prog w' = .ok (.string (strOf (bs.take (k + 4 + n)))) w') (fun _ h => h.2) _ _ _ _ ?_
        refine wpAnyZ_takeE 2 rfl (by kernel_rfl) (by kernel_rfl) (by kernel_rfl) (by kernel_rfl) (fun _ _ _ _ h => h) rfl (by exact ⟨hst3, hst2⟩) ?_
        apply Exists.intro
        refine ⟨fun wx hS => ?_, ?_⟩
        · obtain ⟨s0, s1⟩ := hS; go_simp; rfl
        simp only [Act.put, List.setIfInBounds_toArray, List.set_cons_succ, List.set_cons_zero, List.getElem_toArray, List.getElem_cons_succ, List.getElem_cons_zero]
        refine wpAnyZ_one 7 (by kernel_rfl) rfl rfl (fun K hK => ?_)
        try simp only [List.getElem_toArray, List.getElem_cons_succ, List.getElem_cons_zero]
        go_simp
        refine hK _ _ (.inr ⟨hst3, hst2⟩) ?_
        clear hK K
        try simp only [Act.put, List.setIfInBounds_toArray, List.set_cons_succ, List.set_cons_zero]
        refine wpAnyZ_done (by kernel_rfl) ?_ _
        clear hst2 hst3 hq
        cases bb with
        | true =>
          have HT : Hid (take bs = (ins, k + 4 + n, 0)) := by
            show take bs = (ins, k + 4 + n, 0)
            unfold take
            simp only [RD.out, HINS.out]
            rw [if_neg (by simp), if_neg HT0.out, if_neg HT1.out, if_neg (by simpa using HFL.out.1 (of_decide_eq_true HBB.out))]
          go_wp2_with fail
          go_ret3
          refine ⟨U2.out, .inr ⟨by rw [HT.out], k + 4, n, ?_, by rw [HT.out], by rw [HT.out]; rfl, ?_, by omega⟩⟩
          · rw [HT.out]; have := HIN.out.len; simpa using this.symm
          · rw [HT.out]; exact HIN.out
        | false =>
          have HT : Hid (take bs = ([], 0, 12)) := by
            show take bs = ([], 0, 12)
            unfold take
            simp only [RD.out, HINS.out]
            rw [if_neg (by simp), if_neg HT0.out, if_neg HT1.out, if_pos (fun h => of_decide_eq_false HBB.out (HFL.out.2 h))]
          go_wp2_with fail
          go_ret3
          exact ⟨U2.out, .inl ⟨by rw [HT.out]; simp, by rw [HT.out]; rfl⟩⟩
  · have q1 : (er == 0) = false := by simpa using her
    have HER := hide her
    clear her
    go_wp2_with fail
    go_ret3
    have HT : take bs = ([], 0, er) := by
      unfold take
      rw [RD.out, if_pos HER.out]
    exact ⟨U1.out, .inl ⟨by rw [HT]; exact HER.out, by rw [HT]; rfl⟩⟩
end Go.Proofs.YtekbhfpdakhhkaaGreatDoor.Ref
namespace Go.Proofs.YtekbhfpdakhhkaaGreatDoor.Ref
open Go.RowKit Go.Proofs.YtekbhfpdakhhkaaGreatDoor.Var Go.Proofs.YtekbhfpdakhhkaaGreatDoor.Crc Go.Proofs.YtekbhfpdakhhkaaGreatDoor.Fr

/-- Slices as values, each reading as bytes. -/
def Elems (w : World) (ls : List (List UInt8)) (vs : List Value) : Prop := ∀ (i : Nat) (l : List UInt8), ls[i]? = some l → ∃ (xo : Option Addr) (n c : Nat), vs[i]? = some (Value.slice xo n c) ∧ SrcAt w xo n c (l.map u8v) 1 ∧ n ≤ c ∧ c ≤ maxLen
theorem Elems.snoc {w : World} {ls : List (List UInt8)} {vs : List Value} {l : List UInt8} {xo : Option Addr} {n c : Nat} (h : Elems w ls vs) (hl : vs.length = ls.length) (hs : SrcAt w xo n c (l.map u8v) 1) (hn : n ≤ c) (hc : c ≤ maxLen) : Elems w (ls ++ [l]) (vs ++ [.slice xo n c]) := by
  intro i l' hi
  rw [List.getElem?_append] at hi
  split at hi
  · rename_i hlt
    obtain ⟨xo', n', c', h1, h2⟩ := h i l' hi
    exact ⟨xo', n', c', by rw [List.getElem?_append_left (by omega)]; exact h1, h2⟩
  · rename_i hge
    have hq : i - ls.length = 0 := by
      rcases hq : i - ls.length with _ | j
      · rfl
      · rw [hq] at hi; simp at hi
    rw [hq] at hi
    simp at hi
    subst hi
    exact ⟨xo, n, c, by rw [List.getElem?_append_right (by omega), show i - vs.length = 0 by omega]; rfl, hs, hn, hc⟩
theorem Elems.reads {w w' : World} {base : Nat} {v : Value} {ls : List (List UInt8)} {vs : List Value} (h : Elems w ls vs) (hr : w'.ownsRow base 39 1 v ls.length vs) (hu : Upd [] w w') : ReadsRows w' v ls := by
  obtain ⟨ao, cap, rfl, h1, h2, h3⟩ := owns_slice hr
  refine ⟨ao, cap, rfl, h1, h2, fun i l hi => ?_⟩
  obtain ⟨xo, n, c, hv, hs, hn, hc⟩ := h i l hi
  obtain ⟨g, rfl, -, -, hcell⟩ := h3 i _ hv
  exact ⟨g, 0, xo, n, c, rfl, by rw [Nat.zero_add]; exact hcell, src_upd_nil hs hu, hn, hc⟩

theorem take_src {w : World} {xo : Option Addr} {m c l n : Nat} {bs : List UInt8} (hs : SrcAt w xo m c (bs.map u8v) 1) (hmc : m ≤ c) (he : (take bs).2.2 = 0) (hn : n = (take bs).1.length) (hln : l + n = (take bs).2.1) :
    SrcAt w (cutAt xo l c) n (c - l) ((take bs).1.map u8v) 1 := by
  have hlen : bs.length = m := by have := hs.len; simpa using this
  obtain ⟨t1, t2, t3, t4, t5⟩ := take_ok (bs := bs) (x := (take bs).1) (n := (take bs).2.1) (by rw [← he])
  rw [fr_len] at t5
  have h1 := src_cut (l := l) (h := l + n) (q := c) hs (by omega) (by omega) (by omega) (Nat.le_refl _)
  rw [show l + n - l = n by omega] at h1
  have e2 : (bs.drop l).take n = (take bs).1 := by
    have h2 := congrArg (List.drop l) t4
    rw [List.drop_take, show (take bs).2.1 - l = n by omega] at h2
    rw [h2]
    have e3 : l = (uv (take bs).1.length ++ le4 (Crc.sum (take bs).1)).length := by
      simp only [List.length_append, le4_len]; omega
    rw [e3]
    unfold fr
    rw [List.drop_left]
  rw [e2] at h1
  exact h1
set_option maxRecDepth 100000 in
set_option maxHeartbeats 4000000 in
theorem all_in {w0 : World} {xo : Option Addr} {m c : Nat} {bs : List UInt8} (w : World) (hs0 : SrcAt w0 xo m c (bs.map u8v) 1) (hs : SrcAt w xo m c (bs.map u8v) 1) (hmc : m ≤ c) (hc : c ≤ maxLen) (hm : m ≤ 1000000000000) :
    Calls Tryz.prog 45 #[.slice xo m c] w fun e w' => ∃ v vs, e = .returned (.tuple #[v, .int .i64 ((all bs).2.1 : Nat), .int .i64 (all bs).2.2]) ∧ w'.ownsRow w.heap.size 39 1 v (all bs).1.length vs ∧ Elems w0 (all bs).1 vs ∧ Upd [] w w' := by
  have hlen : bs.length = m := by have := hs.len; simpa using this
  have HS := hide hs; have HS0 := hide hs0; have HL := hide hlen
  obtain ⟨i1, hi1, hy0, hy1, hy2⟩ := info_parts infoR
  clear hs hs0 hlen
  go_enter Tryz.func45, Tryz.ntmps45
  go_wp2_with fail
  go_loopw [5, 6] (fun so sa wr => ∃ (p q : Nat) (ls : List (List UInt8)) (vs : List Value) (ao : Option Addr) (cap : Nat), p ≤ m ∧ so = .slice ao q cap ∧ sa = .int .i64 p ∧ q = ls.length ∧ q ≤ p ∧ Upd [] w wr ∧
      wr.ownsRow w.heap.size 39 1 (.slice ao q cap) q vs ∧ Elems w0 ls vs ∧ all bs = (ls ++ (all (bs.drop p)).1, p + (all (bs.drop p)).2.1, (all (bs.drop p)).2.2)) (fun _ sa _ => m - (intOf sa).toNat)
  case atStart => exact ⟨0, 0, [], [], none, 0, by omega, rfl, rfl, rfl, by omega, Upd.refl _ _, ⟨rfl, .inl ⟨rfl, rfl⟩⟩, fun i l h => by simp at h, by simp⟩
  case round =>
    obtain ⟨p, q, ls, vs, ao, cap, hp, rfl, rfl, hq, hqp, hu, ho, hel, hall⟩ := hrel
    have HQ := hide hq; have HU := hide hu; have HO := hide ho; have HE := hide hel; have HA := hide hall
    clear hq hu ho hel hall
    by_cases hlt : p < m
    · have d1 : decide ((p : Int) < m) = true := by simp; omega
      have d1' : decide (p < m) = true := by simpa using hlt
      have r1 := run_cut_l (P := Tryz.prog) 39 5 Tryz.underlying39 sizeB xo m c p (p : Int) rfl (by omega)
      have hs1 := src_cut (l := p) (h := m) (q := c) HS.out hp (Nat.le_refl _) hmc (Nat.le_refl _)
      rw [List.take_of_length_le (by rw [List.length_drop, HL.out]; exact Nat.le_refl _)] at hs1
      have hne : bs.drop p ≠ [] := fun h => by have h5 := congrArg List.length h; rw [List.length_drop, HL.out] at h5; simp only [List.length_nil] at h5; omega
      have hs10 := src_cut (l := p) (h := m) (q := c) HS0.out hp (Nat.le_refl _) hmc (Nat.le_refl _)
      rw [List.take_of_length_le (by rw [List.length_drop, HL.out]; exact Nat.le_refl _)] at hs10
      have HS10 := hide hs10
      clear hs10
      have HS1 := hide hs1; have HNE := hide hne
      clear hs1 hne
      go_wp2_with fail
      refine (take3_any _ (src_upd_nil HS1.out HU.out) (by omega) (by omega)).mono ?_
      rintro e w2 ⟨hu2, (⟨he, rfl⟩ | ⟨he, l', n, hn, hln, rfl, hsrc, hnc⟩)⟩
      · have hae := all_err HNE.out he
        have U2 := hide (HU.out.trans hu2)
        obtain ⟨er, her⟩ : ∃ er, (take (bs.drop p)).2.2 = er := ⟨_, rfl⟩
        rw [her] at he hae ⊢
        have q1 : (er == 0) = false := by simpa using he
        have AE := hide (show all bs = (ls, p, er) by rw [HA.out, hae]; simp)
        have OO := hide (owns_upd HO.out hu2 (by simp))
        clear hae hu2 he her
        go_wp2_with fail
        go_ret3
        refine ⟨_, vs, by rw [AE.out]; rfl, ?_, by rw [AE.out]; exact HE.out, U2.out⟩
        rw [AE.out]
        simp only [← HQ.out]
        exact OO.out
      · have hao := all_ok HNE.out he
        have htl := Fr.take_len he
        have hdl : (bs.drop p).length = m - p := by rw [List.length_drop, HL.out]
        rw [hdl] at htl
        obtain ⟨N, hN⟩ : ∃ N, (take (bs.drop p)).2.1 = N := ⟨_, rfl⟩
        obtain ⟨ins, hins⟩ : ∃ ins, (take (bs.drop p)).1 = ins := ⟨_, rfl⟩
        rw [hN] at hln htl hao ⊢
        rw [hins] at hn hao hsrc
        have HSR := hide (take_src (l := l') (n := n) HS10.out (by omega) he (by rw [hins]; exact hn) (by rw [hN]; exact hln))
        rw [hins] at HSR
        have U2 := hide (HU.out.trans hu2)
        have OO := hide (owns_upd HO.out hu2 (by simp))
        have AE := hide (show all bs = ((ls ++ [ins]) ++ (all (bs.drop (p + N))).1, (p + N) + (all (bs.drop (p + N))).2.1, (all (bs.drop (p + N))).2.2) by
          rw [HA.out, hao, List.drop_drop]; simp [Nat.add_assoc])
        have hz2 : w.heap.size ≤ w2.heap.size := U2.out.size
        clear hao hu2 he hN hins hn hsrc hln
        go_wp2_with (at_builtin; go_must (refine wpList_append_src _ rfl _ _ 65 rfl w.heap.size 39 i1 (.slice none 0 0) 1 24 Tryz.underlying65 hi1 hy0 hy1 hy2 rfl (by decide) (.slice ao q cap) q vs rfl (OO.out.alloc _) (some ⟨w2.heap.size, 0, none⟩) 1 1 [.slice (cutAt (cutAt xo p c) l' (c - p)) n (c - p - l')] rfl (src_one (cell_new1 rfl) rfl) (by unfold maxLen; omega) (by omega) (by simp; omega) ?_))
        intro ao3 cap3 w3 hown3 hU3 hn3
        have U3 := hide ((U2.out.alloc _).trans_new hU3 (fun k hk => by
          simp only [Option.mem_toList] at hk
          exact .inr (owns_lt OO.out k hk).1))
        have O3 := hide hown3
        clear hown3 hU3 hn3
        go_wp2_with fail
        go_roundw
        case rel => exact ⟨p + N, q + 1, ls ++ [ins], _, ao3, cap3, by omega, rfl, by go_num, by simp [HQ.out], by omega, U3.out, O3.out, HE.out.snoc (by have := OO.out.1; rw [← HQ.out]; simpa using this) HSR.out (by omega) (by omega), AE.out⟩
        case measure => simp [intOf]; omega
    · have d1 : decide ((p : Int) < m) = false := by simp; omega
      have d1' : decide (p < m) = false := by simpa using hlt
      have hpm : p = m := by omega
      have AE := hide (show all bs = (ls, p, 0) by
        rw [HA.out, List.drop_eq_nil_of_le (by rw [HL.out]; omega), all_nil]; simp)
      clear hpm
      go_wp2_with fail
      go_ret3
      refine ⟨_, vs, by rw [AE.out]; rfl, ?_, by rw [AE.out]; exact HE.out, HU.out⟩
      rw [AE.out]
      simp only [← HQ.out]
      exact HO.out
theorem all_any {xo : Option Addr} {m c : Nat} {bs : List UInt8} (w : World) (hs : SrcAt w xo m c (bs.map u8v) 1) (hmc : m ≤ c) (hc : c ≤ maxLen) (hm : m ≤ 1000000000000) :
    Calls Tryz.prog 45 #[.slice xo m c] w fun e w' => ∃ v vs, e = .returned (.tuple #[v, .int .i64 ((all bs).2.1 : Nat), .int .i64 (all bs).2.2]) ∧ w'.ownsRow w.heap.size 39 1 v (all bs).1.length vs ∧ Elems w (all bs).1 vs ∧ Upd [] w w' :=
  all_in w hs hs hmc hc hm
end Go.Proofs.YtekbhfpdakhhkaaGreatDoor.Ref
namespace Go.Proofs.YtekbhfpdakhhkaaGreatDoor.Ref
open Go.RowKit Go.Proofs.YtekbhfpdakhhkaaGreatDoor.Var Go.Proofs.YtekbhfpdakhhkaaGreatDoor.Crc Go.Proofs.YtekbhfpdakhhkaaGreatDoor.Fr

theorem all_zero : ∀ (n : Nat) (bs : List UInt8), bs.length ≤ n → (all bs).2.2 = 0 → (all bs).2.1 = bs.length
  | 0, bs, h, _ => by
    have : bs = [] := List.eq_nil_of_length_eq_zero (by omega)
    subst this
    simp [all_nil]
  | n + 1, bs, h, h1 => by
    by_cases h0 : bs = []
    · subst h0; simp [all_nil]
    by_cases he : (take bs).2.2 = 0
    · have h2 := Fr.take_len he
      rw [all_ok h0 he] at h1 ⊢
      have h3 := all_zero n (bs.drop (take bs).2.1) (by simp; omega) h1
      simp only [List.length_drop] at h3
      show (take bs).2.1 + _ = _
      omega
    · rw [all_err h0 he] at h1
      exact absurd h1 he
theorem Elems.append {w : World} {l1 l2 : List (List UInt8)} {vs1 vs2 : List Value} (h1 : Elems w l1 vs1) (h2 : Elems w l2 vs2) (hl : vs1.length = l1.length) : Elems w (l1 ++ l2) (vs1 ++ vs2) := by
  intro i l hi
  rw [List.getElem?_append] at hi ⊢
  split at hi
  · rename_i hlt
    rw [if_pos (by omega)]
    exact h1 i l hi
  · rename_i hge
    rw [if_neg (by omega), hl]
    exact h2 _ l hi
/-- What the document's Open answers. -/
def RefOpens (w : World) (bs : List UInt8) (k : Nat) (e : Ending) (w' : World) : Prop :=
  Upd [] w w' ∧ (((all (bs.take k)).2.2 ≠ 0 ∧ e = .returned (.tuple #[.slice none 0 0, .int .i64 (bs.length : Nat), .int .i64 22])) ∨
  ((all (bs.take k)).2.2 = 0 ∧ ∃ v, e = .returned (.tuple #[v, .int .i64 ((k : Int) + ((all (bs.drop k)).2.1 : Nat)), .int .i64 0]) ∧ ReadsRows w' v ((all (bs.take k)).1 ++ (all (bs.drop k)).1)))
set_option maxRecDepth 100000 in
set_option maxHeartbeats 1000000 in
theorem open_any {xo : Option Addr} {m c k : Nat} {bs : List UInt8} (w : World) (hs : SrcAt w xo m c (bs.map u8v) 1) (hmc : m ≤ c) (hc : c ≤ maxLen) (hm : m ≤ 1000000000000) (hk : k ≤ m) :
    Calls Tryz.prog 22 #[.slice xo m c, .int .i64 (k : Int)] w (RefOpens w bs k) := by
  have hlen : bs.length = m := by have := hs.len; simpa using this
  have HS := hide hs; have HL := hide hlen
  have r1 := run_cut_h (P := Tryz.prog) 39 5 Tryz.underlying39 sizeB xo m c k (k : Int) rfl (by omega)
  have r2 := run_cut_l (P := Tryz.prog) 39 5 Tryz.underlying39 sizeB xo m c k (k : Int) rfl hk
  have S1 := hide (src_head hs hk hmc)
  have hs2 := src_cut hs hk (Nat.le_refl _) hmc (Nat.le_refl _)
  rw [List.take_of_length_le (by simp; omega)] at hs2
  have S2 := hide hs2
  obtain ⟨i1, hi1, hy0, hy1, hy2⟩ := info_parts infoR
  clear hs hlen hs2
  go_enter Tryz.func22, Tryz.ntmps22
  go_wp2_with fail
  refine (Ref.all_any (bs := bs.take k) _ S1.out (by omega) hc (by omega)).mono ?_
  rintro e w1 ⟨v1, vs1, rfl, ho1, he1, hu1⟩
  have hz := all_zero _ (bs.take k) (Nat.le_refl _)
  have hc1 := Rec.all_count _ (bs.take k) (Nat.le_refl _)
  have hc2 := Rec.all_count _ (bs.drop k) (Nat.le_refl _)
  have hle := Rec.all_le _ (bs.drop k) (Nat.le_refl _)
  have hle1 := Rec.all_le _ (bs.take k) (Nat.le_refl _)
  obtain ⟨l1, a1, e1, hal1⟩ : ∃ l1 a1 e1, all (bs.take k) = (l1, a1, e1) := ⟨_, _, _, rfl⟩
  obtain ⟨l2, a2, e2, hal2⟩ : ∃ l2 a2 e2, all (bs.drop k) = (l2, a2, e2) := ⟨_, _, _, rfl⟩
  rw [hal1] at ho1 he1 hz hc1 hle1 ⊢
  rw [hal2] at hc2 hle
  rw [List.length_take, HL.out] at hz hle1
  rw [List.length_drop, HL.out] at hle
  simp only at hz hc1 hc2 hle hle1 ho1 he1
  have AL1 := hide hal1; have AL2 := hide hal2; have U1 := hide hu1; have O1 := hide ho1; have E1 := hide he1
  clear hal1 hal2 ho1 he1 hu1
  by_cases h0 : e1 = 0
  · subst h0
    have ha : a1 = k := by have := hz rfl; omega
    subst ha
    clear hz
    go_wp2_with fail
    refine (Ref.all_in (w0 := w) (bs := bs.drop a1) _ S2.out (src_upd_nil S2.out U1.out) (by omega) (by omega) (by omega)).mono ?_
    rintro e w2 ⟨v2, vs2, rfl, ho2, he2, hu2⟩
    rw [AL2.out] at ho2 he2 ⊢
    simp only at ho2 he2
    obtain ⟨ao2, cap2, rfl, -, -, -⟩ := owns_slice ho2
    have U2 := hide (U1.out.trans hu2); have O2 := hide ho2; have E2 := hide he2
    have OO := hide (owns_upd O1.out hu2 (by simp))
    have hw : IntKind.i64.wrap ((a1 : Int) + (a2 : Int)) = (a1 : Int) + (a2 : Int) := IntWalk.i64_in _ (by omega)
    clear ho2 he2 hu2
    go_wp2_with (at_builtin; go_must (refine wpList_append_src _ rfl _ _ 65 rfl w.heap.size 39 i1 (.slice none 0 0) 1 24 Tryz.underlying65 hi1 hy0 hy1 hy2 rfl (by decide) v1 l1.length vs1 rfl OO.out ao2 l2.length cap2 vs2 rfl (src_own O2.out ?ones) (by unfold maxLen; omega) (by omega) U2.out.size ?_))
    case ones =>
      intro u hu
      obtain ⟨i, hi⟩ := List.mem_iff_getElem?.1 hu
      have hvl : vs2.length = l2.length := by have := O2.out.1; simpa using this
      have hl : i < l2.length := by have := (List.getElem?_eq_some_iff.1 hi).1; omega
      obtain ⟨xo, n, c, e1, -⟩ := E2.out i l2[i] (by simp [hl])
      rw [hi] at e1
      cases e1
      rfl
    intro ao3 cap3 w3 hown3 hU3 hn3
    have U3 := hide (U2.out.trans_new hU3 (fun k hk => by
      simp only [Option.mem_toList] at hk
      exact .inr (owns_lt O1.out k hk).1))
    have O3 := hide hown3
    clear hown3 hU3 hn3
    go_wp2_with fail
    go_ret3
    unfold RefOpens
    rw [AL1.out, AL2.out]
    refine ⟨U3.out, .inr ⟨rfl, _, rfl, ?_⟩⟩
    have hvl : vs1.length = l1.length := by have := O1.out.1; simpa using this
    exact (E1.out.append E2.out hvl).reads (base := w.heap.size) (by simpa using O3.out) U3.out
  · have q : (e1 == 0) = false := by simpa using h0
    have q2 : (e1 != 0) = true := by simpa using h0
    have HE := hide h0
    clear h0 hz
    go_wp2_with fail
    go_ret3
    unfold RefOpens
    rw [AL1.out, HL.out]
    exact ⟨U1.out, .inl ⟨HE.out, rfl⟩⟩
end Go.Proofs.YtekbhfpdakhhkaaGreatDoor.Ref
