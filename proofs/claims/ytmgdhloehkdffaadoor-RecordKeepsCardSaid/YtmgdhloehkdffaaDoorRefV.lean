/- The document's variable-length numbers: what each call answers and what it leaves in memory. -/
import Derived.Test.YtmgdhloehkdffaaDoorFrW
import Derived.Test.YtmgdhloehkdffaaDoorStr
namespace Go.Proofs.YtmgdhloehkdffaaDoor.Ref
open Go.RowKit Go.Proofs.YtmgdhloehkdffaaDoor.Var Go.Proofs.YtmgdhloehkdffaaDoor.Crc

/-- A new block is a row of the call's own. -/
theorem owns_block {w : World} {base b n : Nat} {cs : Array Value} {e : TypeId} {xs : List Value} (h : w.heap[b]? = some (.cells cs e (0, 0))) (hb : base ≤ b) (hc : cs.toList = xs) (hn : xs.length = n) (hm : n ≤ maxLen) :
    w.ownsRow base e 1 (.slice (some ⟨b, 0, none⟩) n n) n xs := by
  subst hn; subst hc
  exact ⟨by simp, .inr ⟨b, _, cs, rfl, hb, h, Nat.le_refl _, hm, by simp, by rw [List.take_of_length_le (by simp)]⟩⟩

set_option maxHeartbeats 1000000 in
theorem uint_any (n : Nat) (hn : n < 18446744073709551616) : ∀ w : World,
    Calls Tryd.prog 39 #[.int .u64 (n : Int)] w fun e w' => ∃ v ao cap, e = .returned v ∧ v = .slice ao (uv n).length cap ∧ w'.ownsRow w.heap.size 5 1 (.slice ao (uv n).length cap) (uv n).length ((uv n).map u8v) ∧ Upd [] w w' := by
  induction n using Nat.strongRecOn with
  | _ n ih =>
    intro w
    by_cases h : n < 128
    · have hd : decide ((n : Int) < 128) = true := by simp; omega
      have hu := hide (uv_last h)
      go_enter Tryd.func39, Tryd.ntmps39
      go_wp2_with fail
      go_ret
      refine ⟨_, some ⟨w.heap.size, 0, none⟩, 1, rfl, by rw [hu.out]; rfl, ?_, (Upd.refl _ _).alloc _⟩
      rw [hu.out]
      exact owns_block (blk_new w _) (Nat.le_refl _) (by simp [u8v]; omega) rfl (by simp [maxLen])
    · have hd : decide ((n : Int) < 128) = false := by simp; omega
      have hu := hide (uv_more (n := n) (by omega))
      obtain ⟨q, hq⟩ : ∃ q, n / 128 = q := ⟨_, rfl⟩
      obtain ⟨r, hr⟩ : ∃ r, n % 128 = r := ⟨_, rfl⟩
      have e1 : (n : Int) / 128 = (q : Int) := by omega
      have e2 : (n : Int) % 128 = (r : Int) := by omega
      have hrl : r < 128 := by omega
      have IH := hide (ih q (by omega) (by omega))
      rw [hq, hr] at hu
      have hul : (uv q).length ≤ 10 := uv_len10 (by omega)
      clear ih hq hr
      obtain ⟨i0, hi, hz0, hz1, hz2⟩ := info_parts infoB
      go_enter Tryd.func39, Tryd.ntmps39
      go_wp2_with fail
      refine (IH.out _).mono ?_
      rintro e w1 ⟨v, ao, cap, rfl, rfl, ho, hu1⟩
      have hb := hu1.get (blk_new w (.cells #[.int .u8 (128 + (r : Int))] 5)) (by simp)
      have hs := src_own ho (by simp [u8v, Value.oneCell'])
      have HB := hide (owns_block (base := w.heap.size) (n := 1) (xs := [.int .u8 (128 + (r : Int))]) hb (Nat.le_refl _) rfl rfl (by simp [maxLen])); have HS := hide hs; have HU := hide (((Upd.refl [] w).alloc (.cells #[.int .u8 (128 + (r : Int))] 5)).trans hu1)
      clear ho hu1 hb hs IH
      go_wp2_with (at_builtin; go_must (refine wpList_append_src _ rfl _ _ 22 rfl w.heap.size 5 i0 (.int .u8 0) 1 1 Tryd.underlying22 hi hz0 hz1 hz2 rfl (by decide) (.slice (some ⟨w.heap.size, 0, none⟩) 1 1) 1 [.int .u8 (128 + (r : Int))] rfl HB.out ao (uv q).length cap ((uv q).map u8v) rfl HS.out (by unfold maxLen; omega) (by omega) (HU.out.size) ?_))
      intro ao2 cap2 w2 hown2 hU2 hn2
      have O2 := hide hown2; have U2 := hide hU2
      clear hown2 hU2 hn2
      go_wp2_with fail
      go_ret
      have e3 : (uv n).length = 1 + (uv q).length := by rw [hu.out]; simp; omega
      refine ⟨_, ao2, cap2, rfl, by rw [e3]; rfl, ?_, HU.out.trans_new U2.out (by simp [Value.ownBlock])⟩
      rw [e3, hu.out]
      have := O2.out
      simp only [List.map_cons, u8v]
      rw [ofNat8 (by omega)]
      simpa using this

set_option maxHeartbeats 400000 in
theorem same_any {ao bo : Option Addr} {m n c d : Nat} {xs bs : List UInt8} (w : World) (ha : SrcAt w ao m c (xs.map u8v) 1) (hb : SrcAt w bo n d (bs.map u8v) 1) :
    Calls Tryd.prog 55 #[.slice ao m c, .slice bo n d] w fun e w' => e = .returned (.bool (decide (xs = bs))) ∧ w = w' := by
  have h1 := run_str ha
  have h2 := run_str hb
  have h3 := strOf_eq xs bs
  clear ha hb
  go_enter Tryd.func55, Tryd.ntmps55
  go_wp2_with fail
  go_ret
  exact ⟨rfl, rfl⟩

set_option maxRecDepth 100000 in
set_option maxHeartbeats 4000000 in
theorem take_any {xo : Option Addr} {m c : Nat} {bs : List UInt8} (w : World) (hs : SrcAt w xo m c (bs.map u8v) 1) (hmc : m ≤ c) (hc : c ≤ maxLen) :
    Calls Tryd.prog 40 #[.slice xo m c] w fun e w' => e = .returned (.tuple #[.int .u64 ((rd bs).1 : Nat), .int .i64 ((rd bs).2.1 : Nat), .int .i64 (rd bs).2.2]) ∧ Upd [] w w' := by
  have hlen : bs.length = m := by have := hs.len; simpa using this
  have HS := hide hs; have HL := hide hlen
  unfold maxLen at hc
  clear hs hlen
  go_enter Tryd.func40, Tryd.ntmps40
  go_wp2_with fail
  go_loop [5] (fun sk => ∃ k : Nat, k ≤ m ∧ k ≤ 10 ∧ sk = .int .i64 k ∧ ∀ i, i < k → 128 ≤ (bs.getD i 0).toNat) (fun sk => 10 - (intOf sk).toNat)
  case atStart => exact ⟨0, by omega, by omega, rfl, by omega⟩
  case round =>
    obtain ⟨k, hkm, hk10, rfl, hhi⟩ := hrel
    have HHI := hide hhi
    clear hhi
    by_cases hgo : k < m ∧ k < 10 ∧ 128 ≤ (bs.getD k 0).toNat
    · obtain ⟨g1, g2, g3⟩ := hgo
      obtain ⟨b, off, rfl, hcell⟩ := src_at HS.out g1
      have d1 : decide ((k : Int) < m) = true := by simp; omega
      have d1' : decide (k < m) = true := by simpa using g1
      have d2 : decide ((k : Int) < 10) = true := by simp; omega
      have HG := hide g3
      obtain ⟨x, hx⟩ : ∃ x, (bs.getD k 0).toNat = x := ⟨_, rfl⟩
      rw [hx] at hcell g3
      have d3 : decide ((128 : Int) ≤ x) = true := by simp; omega
      clear hx
      go_wp2_with fail
      go_round
      case rel => exact ⟨k + 1, by omega, by omega, by go_num, fun i hi => by
        by_cases h : i = k
        · subst h; exact HG.out
        · exact HHI.out i (by omega)⟩
      case measure => simp [intOf]; omega
    · by_cases k10 : k = 10
      · have hrd : rd bs = (0, 0, 11) := by
          unfold rd
          rw [if_pos (.inl (by rw [← k10]; exact lead_ge HHI.out (by rw [HL.out]; exact hkm)))]
        have RD := hide hrd
        subst k10
        clear hrd hgo
        by_cases hm : 10 < m
        · have d1 : decide ((10 : Int) < m) = true := by simp; omega
          have d1' : decide (10 < m) = true := by simpa using hm
          go_wp2_with fail
          go_ret3
          exact ⟨by rw [RD.out]; rfl, Upd.refl _ _⟩
        · have d1 : decide ((10 : Int) < m) = false := by simp; omega
          have d1' : decide (10 < m) = false := by simpa using hm
          go_wp2_with fail
          go_ret3
          exact ⟨by rw [RD.out]; rfl, Upd.refl _ _⟩
      · by_cases km : k = m
        · have hrd : rd bs = (0, 0, 10) := by
            unfold rd
            have hle : lead bs = k := lead_eq HHI.out (by rw [HL.out]; exact hkm) (fun h => by rw [HL.out] at h; omega)
            have hbl := HL.out
            rw [hle, if_neg (by omega), if_pos (by omega)]
          have RD := hide hrd
          subst km
          have d3 : ((k : Int) == 10) = false := by simp; omega
          have d4 : ((k : Int) == 9) = true ∨ ((k : Int) == 9) = false := by cases ((k : Int) == 9) <;> simp
          clear hrd hgo
          rcases d4 with d4 | d4
          all_goals
            go_wp2_with fail
            go_ret3
            exact ⟨by rw [RD.out]; rfl, Upd.refl _ _⟩
        · have g1 : k < m := by omega
          have g2 : k < 10 := by omega
          obtain ⟨b, off, rfl, hcell⟩ := src_at HS.out g1
          have g3 : (bs.getD k 0).toNat < 128 := by omega
          have hle : lead bs = k := lead_eq HHI.out (by rw [HL.out]; exact hkm) (fun _ => g3)
          have HLE := hide hle
          obtain ⟨x, hx⟩ : ∃ x, (bs.getD k 0).toNat = x := ⟨_, rfl⟩
          rw [hx] at hcell g3
          have HX := hide hx
          have d1 : decide ((k : Int) < m) = true := by simp; omega
          have d1' : decide (k < m) = true := by simpa using g1
          have d2 : decide ((k : Int) < 10) = true := by simp; omega
          have d3 : decide ((128 : Int) ≤ x) = false := by simp; omega
          have d4 : ((k : Int) == 10) = false := by simp; omega
          have d5 : ((k : Int) == m) = false := by simp; omega
          clear hle hx hgo
          by_cases k9 : k = 9 ∧ 1 < x
          · obtain ⟨k9, hx1⟩ := k9
            have hrd : rd bs = (0, 0, 11) := by
              unfold rd
              have h1 := HLE.out
              have h2 := HX.out
              have h3 := HL.out
              subst k9
              rw [if_pos (.inr ⟨h1, by omega, by omega⟩)]
            have RD := hide hrd
            subst k9
            have d6 : decide ((1 : Int) < x) = true := by simp; omega
            have d7 : decide (9 < m) = true := by simpa using g1
            have d8 : decide ((9 : Int) < m) = true := by simp; omega
            clear hrd
            go_wp2_with fail
            go_ret3
            exact ⟨by rw [RD.out]; rfl, Upd.refl _ _⟩
          · have d6 : ((k : Int) == 9) = false ∨ (((k : Int) == 9) = true ∧ decide ((1 : Int) < x) = false ∧ w.cell? ⟨b, off + 9, none⟩ = some (.int .u8 (x : Int)) ∧ 9 < m) := by
              by_cases h : k = 9
              · exact .inr ⟨by simp; omega, by simp; omega, by rw [← h]; exact hcell, by omega⟩
              · exact .inl (by simp; omega)
            have hnl : ¬ (10 ≤ lead bs ∨ (lead bs = 9 ∧ 9 < bs.length ∧ 1 < (bs.getD 9 0).toNat)) := by
              have h1 := HLE.out
              have h2 := HX.out
              rintro (h | ⟨h, -, h'⟩)
              · omega
              · have h3 : k = 9 := by omega
                rw [← h3] at h'
                omega
            have hltb : lead bs < bs.length := by rw [HLE.out, HL.out]; exact g1
            have hvlt := rd_take_lt hnl hltb
            have halike := rd_alike hltb
            have hrd : rd bs = if 0 < lead bs ∧ (bs.getD (lead bs) 0).toNat = 0 then (0, 0, 11) else (val (bs.take (lead bs + 1)), lead bs + 1, 0) := by
              conv => lhs; unfold rd
              rw [if_neg hnl, if_neg (by omega)]
            rw [HLE.out] at hvlt halike hrd
            obtain ⟨l, hl⟩ : ∃ l, bs.take (k + 1) = l := ⟨_, rfl⟩
            rw [hl] at hvlt halike hrd
            have hll : l.length = k + 1 := by rw [← hl, List.length_take, HL.out]; omega
            have hlg : ∀ i, i < k + 1 → l.getD i 0 = bs.getD i 0 := fun i hi => by rw [← hl]; simp [List.getD_eq_getElem?_getD, hi]
            have HAL := hide halike; have HRD := hide hrd; have HLL := hide hll; have HLG := hide hlg; have HBT := hide hl
            clear k9 hnl hltb halike hrd hll hlg hl
            rcases d6 with d6 | ⟨d6, d7, d8, d9⟩
            all_goals
              go_wp2_with fail
              go_loop [6, 7] (fun sn si => ∃ j : Nat, j ≤ k + 1 ∧ si = .int .i64 ((j : Int) - 1) ∧ sn = .int .u64 (val (l.drop j) : Nat)) (fun _ si => (intOf si + 1).toNat)
              case atStart => exact ⟨k + 1, by omega, by simp, by rw [List.drop_eq_nil_of_le (by rw [HLL.out]; exact Nat.le_refl _)]; rfl⟩
              case round =>
                obtain ⟨j, hj, rfl, rfl⟩ := hrel
                by_cases hj0 : 1 ≤ j
                · obtain ⟨q, rfl⟩ : ∃ q, j = q + 1 := ⟨j - 1, by omega⟩
                  have hvd := val_drop l q (by rw [HLL.out]; omega)
                  have hvl := val_drop_le l q
                  rw [HLG.out q (by omega)] at hvd
                  obtain ⟨b', off', e', hcq⟩ := src_at (j := q) HS.out (by omega)
                  cases e'
                  obtain ⟨y, hy⟩ : ∃ y, (bs.getD q 0).toNat = y := ⟨_, rfl⟩
                  have hyl : y < 256 := by rw [← hy]; exact UInt8.toNat_lt _
                  rw [hy] at hcq hvd
                  obtain ⟨v, hv⟩ : ∃ v, val (l.drop (q + 1)) = v := ⟨_, rfl⟩
                  rw [hv] at hvd ⊢
                  obtain ⟨z, hz⟩ : ∃ z, y % 128 = z := ⟨_, rfl⟩
                  have e0 : ((q + 1 : Nat) : Int) - 1 = (q : Int) := by omega
                  have e1 : Go.bits .and .u8 (y : Int) 127 = (z : Int) := by
                    rw [show (127 : Int) = ((127 : Nat) : Int) from rfl, u8_and_nat _ _ hyl (by decide), nat_mask7, hz]
                  have hzl : z < 128 := by omega
                  rw [hz] at hvd
                  have e2 : Go.bits .or .u64 (IntKind.u64.wrap ((v : Int) * 128)) (z : Int) = ((val (l.drop q) : Nat) : Int) := by
                    rw [IntKind.wrap_u64, show ((v : Int) * 128) % 18446744073709551616 = ((128 * v : Nat) : Int) by omega, u64_or_nat _ _ (by omega) (by omega), nat_join 7 _ _ (by omega) hzl]
                    rw [hvd]; congr 1; omega
                  have hqk : q < m := by omega
                  have HVD := hide hvd
                  clear hvd hy hv hz hvl
                  rw [e0]
                  go_wp2_with fail
                  go_round
                  case rel => exact ⟨q, by omega, rfl, rfl⟩
                  case measure => simp [intOf]
                · obtain rfl : j = 0 := by omega
                  obtain ⟨v, hv⟩ : ∃ v, val (l.drop 0) = v := ⟨_, rfl⟩
                  have hvl : val l = v := by rw [← hv]; rfl
                  rw [hv, show (((0 : Nat) : Int) - 1) = -1 from rfl]
                  rw [hvl] at hvlt
                  have HVL := hide hvl
                  have r1 := run_cut_h (P := Tryd.prog) 22 5 Tryd.underlying22 sizeB (some ⟨b, off, none⟩) m c (k + 1) ((k : Int) + 1) (by omega) (by omega)
                  have hwk : IntKind.i64.wrap ((k : Int) + 1) = (k : Int) + 1 := IntWalk.i64_in _ (by omega)
                  clear hv hj hj0
                  go_wp2_with fail
                  refine wp_region_z (fun _ => True) 99 (by kernel_rfl) ?_
                  refine wpAnyZ_takeE 0 rfl (by kernel_rfl) (by kernel_rfl) (by kernel_rfl) (by kernel_rfl) (fun _ _ _ _ h => h) rfl (by exact trivial) ?_
                  apply Exists.intro
                  refine ⟨fun wx hS => ?_, ?_⟩
                  · go_simp; rfl
                  simp only [Act.put, List.setIfInBounds_toArray, List.set_cons_succ, List.set_cons_zero, List.getElem_toArray, List.getElem_cons_zero]
                  refine wpAnyZ_takeE 2 rfl (by kernel_rfl) (by kernel_rfl) (by kernel_rfl) (by kernel_rfl) (fun _ _ _ _ h => h) rfl (by exact trivial) ?_
                  apply Exists.intro
                  refine ⟨fun wx hS => ?_, ?_⟩
                  · go_simp; rfl
                  simp only [Act.put, List.setIfInBounds_toArray, List.set_cons_succ, List.set_cons_zero, List.getElem_toArray, List.getElem_cons_succ, List.getElem_cons_zero]
                  refine wpAnyZ_takeE 3 rfl (by kernel_rfl) (by kernel_rfl) (by kernel_rfl) (by kernel_rfl) (fun _ _ _ _ h => h) rfl (by exact trivial) ?_
                  apply Exists.intro
                  refine ⟨fun wx hS => ?_, ?_⟩
                  · go_simp; rfl
                  simp only [Act.put, List.setIfInBounds_toArray, List.set_cons_succ, List.set_cons_zero, List.getElem_toArray, List.getElem_cons_succ, List.getElem_cons_zero]
                  refine wpAnyZ_takeE 4 rfl (by kernel_rfl) (by kernel_rfl) (by kernel_rfl) (by kernel_rfl) (fun _ _ _ _ h => h) rfl (by exact trivial) ?_
                  apply Exists.intro
                  refine ⟨fun wx hS => ?_, ?_⟩
                  · go_simp; rfl
                  simp only [Act.put, List.setIfInBounds_toArray, List.set_cons_succ, List.set_cons_zero, List.getElem_toArray, List.getElem_cons_succ, List.getElem_cons_zero]
                  refine wpAnyZ_takeE 5 rfl (by kernel_rfl) (by kernel_rfl) (by kernel_rfl) (by kernel_rfl) (fun _ _ _ _ h => h) rfl (by exact trivial) ?_
                  apply Exists.intro
                  refine ⟨fun wx hS => ?_, ?_⟩
                  · go_simp; rfl
                  simp only [Act.put, List.setIfInBounds_toArray, List.set_cons_succ, List.set_cons_zero, List.getElem_toArray, List.getElem_cons_succ, List.getElem_cons_zero]
                  refine wpAnyZ_one 1 (by kernel_rfl) rfl rfl (fun K hK => ?_)
                  try simp only [List.getElem_toArray, List.getElem_cons_succ, List.getElem_cons_zero]
                  go_simp
                  refine (uint_any v (by omega) _).mono ?_
                  rintro e w2 ⟨v2, ao2, cap2, rfl, rfl, ho2, hu2⟩
                  have O2 := hide ho2; have U2 := hide (((Upd.refl [] w).drewN 1).trans hu2)
                  clear ho2 hu2
                  refine hK _ _ (.inr trivial) ?_
                  clear hK K
                  try simp only [Act.put, List.setIfInBounds_toArray, List.set_cons_succ, List.set_cons_zero]
                  refine wpAnyZ_one 6 (by kernel_rfl) rfl rfl (fun K hK => ?_)
                  try simp only [List.getElem_toArray, List.getElem_cons_succ, List.getElem_cons_zero]
                  go_simp
                  refine (same_any _ (src_own O2.out (by simp [u8v, Value.oneCell'])) (src_head (src_upd_nil HS.out U2.out) (by omega) hmc)).mono ?_
                  rw [HBT.out]
                  rintro e w3 ⟨rfl, rfl⟩
                  have HD : Hid (decide (uv v = l) = decide (¬ (0 < k ∧ (bs.getD k 0).toNat = 0))) := by
                    show decide (uv v = l) = _
                    rw [← HVL.out]
                    exact decide_eq_decide.2 HAL.out
                  rw [HD.out]
                  refine hK _ _ (.inr trivial) ?_
                  clear hK K
                  try simp only [Act.put, List.setIfInBounds_toArray, List.set_cons_succ, List.set_cons_zero]
                  by_cases hz : 0 < k ∧ (bs.getD k 0).toNat = 0
                  · have hdz : decide (¬ (0 < k ∧ (bs.getD k 0).toNat = 0)) = false := decide_eq_false (fun h => h hz)
                    have RD : Hid (rd bs = (0, 0, 11)) := by
                      show rd bs = _
                      rw [HRD.out, if_pos hz]
                    rw [hdz]
                    clear hz hdz
                    refine wpAnyZ_takeE 7 rfl (by kernel_rfl) (by kernel_rfl) (by kernel_rfl) (by kernel_rfl) (fun _ _ _ _ h => h) rfl (by exact trivial) ?_
                    apply Exists.intro
                    refine ⟨fun wx hS => ?_, ?_⟩
                    · go_simp; rfl
                    simp only [Act.put, List.setIfInBounds_toArray, List.set_cons_succ, List.set_cons_zero, List.getElem_toArray, List.getElem_cons_succ, List.getElem_cons_zero]
                    refine wpAnyZ_done (by kernel_rfl) ?_ _
                    go_wp2_with fail
                    go_ret3
                    exact ⟨by rw [RD.out]; rfl, U2.out⟩
                  · have hdz : decide (¬ (0 < k ∧ (bs.getD k 0).toNat = 0)) = true := decide_eq_true hz
                    have RD : Hid (rd bs = (v, k + 1, 0)) := by
                      show rd bs = _
                      rw [HRD.out, if_neg hz, HVL.out]
                    rw [hdz]
                    clear hz hdz
                    refine wpAnyZ_takeE 7 rfl (by kernel_rfl) (by kernel_rfl) (by kernel_rfl) (by kernel_rfl) (fun _ _ _ _ h => h) rfl (by exact trivial) ?_
                    apply Exists.intro
                    refine ⟨fun wx hS => ?_, ?_⟩
                    · go_simp; rfl
                    simp only [Act.put, List.setIfInBounds_toArray, List.set_cons_succ, List.set_cons_zero, List.getElem_toArray, List.getElem_cons_succ, List.getElem_cons_zero]
                    refine wpAnyZ_done (by kernel_rfl) ?_ _
                    go_wp2_with fail
                    go_ret3
                    exact ⟨by rw [RD.out]; rfl, U2.out⟩
end Go.Proofs.YtmgdhloehkdffaaDoor.Ref
