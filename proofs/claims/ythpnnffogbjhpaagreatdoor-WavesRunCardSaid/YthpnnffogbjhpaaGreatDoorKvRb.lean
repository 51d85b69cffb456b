/- quorateref01.Uint, Text; quorateref09.Bytes. -/
import Derived.Test.YthpnnffogbjhpaaGreatDoorKvRq
import Derived.Test.YthpnnffogbjhpaaGreatDoorKvTxz
import Derived.Test.YthpnnffogbjhpaaGreatDoorKvPtA
set_option linter.unusedSimpArgs false
set_option linter.unusedVariables false
set_option linter.unnecessarySimpa false
namespace Go.Proofs.YthpnnffogbjhpaaGreatDoor.Kv
set_option linter.unusedSimpArgs false
set_option linter.unusedVariables false
set_option linter.unnecessarySimpa false
open Go.RowKit Go.Lib Go.Proofs.YthpnnffogbjhpaaGreatDoor.Crc Go.Proofs.YthpnnffogbjhpaaGreatDoor.Cm Go.Proofs.YthpnnffogbjhpaaGreatDoor.Var

theorem owns_blk1 {w : World} {base b n : Nat} {cs : Array Value} {e : TypeId} {xs : List Value} (h : w.heap[b]? = some (.cells cs e (0, 0))) (hb : base ≤ b) (hc : cs.toList = xs) (hn : xs.length = n) (hm : n ≤ maxLen) :
    w.ownsRow base e 1 (.slice (some ⟨b, 0, none⟩) n n) n xs := by
  subst hn; subst hc
  exact ⟨by simp, .inr ⟨b, _, cs, rfl, hb, h, Nat.le_refl _, hm, by simp, by rw [List.take_of_length_le (by simp)]⟩⟩
/-- What a call has made: a row of bytes of its own. -/
def Made (w : World) (v : Value) (bs : List UInt8) (w' : World) : Prop := w'.ownsRow w.heap.size 5 1 v bs.length (bs.map u8v) ∧ Upd [] w w'
set_option maxHeartbeats 1000000 in
theorem ruint_any (n : Nat) (hn : n < 18446744073709551616) : ∀ w : World,
    Calls Tryz.prog 44 #[.int .u64 (n : Int)] w fun e w' => ∃ v, e = .returned v ∧ Made w v (uv n) w' := by
  induction n using Nat.strongRecOn with
  | _ n ih =>
    intro w
    by_cases h : n < 128
    · have hd : decide ((n : Int) < 128) = true := by simp; omega
      have hu := hide (uv_last h)
      go_enter Tryz.func44, Tryz.ntmps44
      go_wp2_with fail
      go_ret
      refine ⟨_, rfl, ?_, (Upd.refl _ _).alloc _⟩
      rw [hu.out]
      exact owns_blk1 (blk_new w _) (Nat.le_refl _) (by simp [u8v]; omega) rfl (by simp [maxLen])
    · have hd : decide ((n : Int) < 128) = false := by simp; omega
      have hu := hide (uv_more (n := n) (by omega))
      obtain ⟨q, hq⟩ : ∃ q, n / 128 = q := ⟨_, rfl⟩
      obtain ⟨r, hr⟩ : ∃ r, n % 128 = r := ⟨_, rfl⟩
      have e1 : (n : Int) / 128 = (q : Int) := by omega
      have e2 : (n : Int) % 128 = (r : Int) := by omega
      have hrl : r < 128 := by omega
      have IH := hide (ih q (by omega) (by omega))
      rw [hq, hr] at hu
      have hul : (uv q).length ≤ 10 := uv_len10 (by omega)
      clear ih hq hr
      obtain ⟨i0, hi, hz0, hz1, hz2⟩ := info_parts infoB
      go_enter Tryz.func44, Tryz.ntmps44
      go_wp2_with fail
      refine (IH.out _).mono ?_
      rintro e w1 ⟨v, rfl, ho, hu1⟩
      obtain ⟨ao, cap, rfl, -, -, -⟩ := owns_slice ho
      have hb := hu1.get (blk_new w (.cells #[.int .u8 (128 + (r : Int))] 5)) (by simp)
      have hs := src_own ho (by simp [u8v, Value.oneCell'])
      have HB := hide (owns_blk1 (base := w.heap.size) (n := 1) (xs := [.int .u8 (128 + (r : Int))]) hb (Nat.le_refl _) rfl rfl (by simp [maxLen])); have HS := hide hs; have HU := hide (((Upd.refl [] w).alloc (.cells #[.int .u8 (128 + (r : Int))] 5)).trans hu1)
      clear ho hu1 hb hs IH
      go_wp2_with (at_builtin; go_must (refine wpList_append_src _ rfl _ _ 22 rfl w.heap.size 5 i0 (.int .u8 0) 1 1 Tryz.underlying22 hi hz0 hz1 hz2 rfl (by decide) (.slice (some ⟨w.heap.size, 0, none⟩) 1 1) 1 [.int .u8 (128 + (r : Int))] rfl HB.out ao (uv q).length cap ((uv q).map u8v) rfl HS.out (by unfold maxLen; omega) (by omega) (HU.out.size) ?_))
      intro ao2 cap2 w2 hown2 hU2 hn2
      have O2 := hide hown2; have U2 := hide hU2
      clear hown2 hU2 hn2
      go_wp2_with fail
      go_ret
      have e3 : (uv n).length = 1 + (uv q).length := by rw [hu.out]; simp; omega
      refine ⟨_, rfl, ?_, HU.out.trans_new U2.out (by simp [Value.ownBlock])⟩
      rw [e3, hu.out]
      have := O2.out
      simp only [List.map_cons, u8v]
      rw [ofNat8 (by omega)]
      simpa using this
set_option maxRecDepth 100000 in
set_option maxHeartbeats 1000000 in
theorem rtext_any {s : List UInt8} (w : World) (hs : s.length ≤ 1000000) :
    Calls Tryz.prog 46 #[.string (strOf s)] w fun e w' => ∃ v, e = .returned v ∧ Made w v (txB s) w' := by
  have hz := strOf_size s
  obtain ⟨i0, hi, hz0, hz1, hz2⟩ := info_parts infoB
  have ew : IntKind.u64.wrap (s.length : Int) = (s.length : Int) := IntWalk.u64_in _ (by omega)
  go_enter Tryz.func46, Tryz.ntmps46
  go_wp2_with fail
  refine (ruint_any s.length (by omega) w).mono ?_
  rintro e w1 ⟨v1, rfl, ho, hu⟩
  have hul := uv_len10 (n := s.length) (by omega)
  have O1 := hide ho; have U1 := hide hu
  have hz1' := hu.size
  clear ho hu
  go_wp2_with (at_builtin; go_must (refine wpList_append_mystr _ rfl _ _ 22 9 rfl w.heap.size 5 i0 Tryz.underlying22 Tryz.underlying9 hi hz0 hz1 hz2 v1 _ _ rfl O1.out (strOf s) rfl (by rw [hz]; unfold maxLen; omega) (by rw [hz]; omega) (by omega) ?_))
  intro v2 w2 ho hu hn
  have hlt := owns_lt O1.out
  have O2 := hide (show w2.ownsRow w.heap.size 5 1 v2 (txB s).length ((txB s).map u8v) by simpa [strCells_of, Nat.add_assoc, txB] using ho)
  have U2 := hide (U1.out.trans_new hu (fun k hk => .inr (hlt k (by simpa using hk)).1))
  clear ho hu hn hz
  go_wp2_with fail
  go_ret
  exact ⟨_, rfl, O2.out, U2.out⟩
set_option maxRecDepth 100000 in
set_option maxHeartbeats 4000000 in
theorem rbytes_any {T : Nat → Prop} {v : Value} {m : KM} (w : World) (h : pairK.row w T v m) (hm : KvOk m) (hl : m.length ≤ 10000) :
    Calls Tryz.prog 45 #[v] w fun e w' => ∃ v', e = .returned v' ∧ Made w v' (kvB m) w' := by
  obtain ⟨xo, cp, rfl, h1, h2, hget⟩ := pair_get h
  simp only [maxLen] at h2
  have HG := hide hget; have HM := hide hm
  obtain ⟨i0, hi, hz0, hz1, hz2⟩ := info_parts infoB
  have hul := uv_len10 (n := m.length) (by omega)
  have hpr := prs_len m hm
  have ew : IntKind.u64.wrap (m.length : Int) = (m.length : Int) := IntWalk.u64_in _ (by omega)
  obtain ⟨B1, hB1⟩ : ∃ x, uv m.length = x := ⟨_, rfl⟩
  have hgoal : kvB m = B1 ++ m.flatMap prB := by rw [kvB, hB1]
  rw [hgoal]
  rw [hB1] at hul
  have HB1 := hide hB1
  clear h hget hm hgoal hB1
  go_enter Tryz.func45, Tryz.ntmps45
  go_wp2_with fail
  refine (ruint_any m.length (by omega) w).mono ?_
  rw [HB1.out]
  rintro e w1 ⟨v1, rfl, ho, hu⟩
  obtain ⟨a1, c1, rfl, -, -, -⟩ := owns_slice ho
  have O1 := hide ho; have U1 := hide hu
  clear ho hu
  go_wp2_with fail
  go_loopw [3, 4] (fun sb si wr => ∃ (j : Nat) (Bs : List UInt8), j ≤ m.length ∧ si = .int .i64 j ∧ Bs = B1 ++ (m.take j).flatMap prB ∧ wr.ownsRow w.heap.size 5 1 sb Bs.length (Bs.map u8v) ∧ Upd [] w wr) (fun _ si _ => m.length - (RowKit.intOf si).toNat)
  case atStart => exact ⟨0, B1, by omega, rfl, by simp, O1.out, U1.out⟩
  case round =>
    obtain ⟨j, Bs, hj, rfl, hB, ho, hu⟩ := hrel
    obtain ⟨ab, cb, rfl, -, -, -⟩ := owns_slice ho
    have hol := owns_lt ho
    have O := hide ho; have U := hide hu; have HBB := hide hB
    have hzr := hu.size
    have hbl : Bs.length ≤ 2000000 := by
      rw [hB, List.length_append]
      have h3 : ((m.take j).flatMap prB).length ≤ (m.flatMap prB).length := by
        conv => rhs; rw [← List.take_append_drop j m, List.flatMap_append, List.length_append]
        omega
      omega
    clear ho hu hB
    by_cases hlt : j < m.length
    · have d5 : decide ((j : Int) < m.length) = true := by simp; omega
      have d5' : decide (j < m.length) = true := by simpa using hlt
      obtain ⟨p, hp⟩ : ∃ p, m[j]? = some p := ⟨_, List.getElem?_eq_getElem hlt⟩
      obtain ⟨bx, ox, rfl, hb, -, hc0, hc1⟩ := HG.out j p hp
      have hpb := HM.out.2 p (List.mem_of_getElem? hp)
      have k0 := cell_upd hc0 U.out (by simp)
      have hn4 : Bs ++ txB p.1 ++ txB p.2 = B1 ++ (m.take (j + 1)).flatMap prB := by
        rw [HBB.out, List.take_add_one, hp]
        simp [prB]
      have ht1 : (txB p.1).length ≤ 100 := by have := uv_len10 (n := p.1.length) (by omega); simp only [txB, List.length_append]; omega
      have ht2 : (txB p.2).length ≤ 100 := by have := uv_len10 (n := p.2.length) (by omega); simp only [txB, List.length_append]; omega
      obtain ⟨x1, hx1⟩ : ∃ x, txB p.1 = x := ⟨_, rfl⟩
      obtain ⟨x2, hx2⟩ : ∃ x, txB p.2 = x := ⟨_, rfl⟩
      rw [hx1] at hn4 ht1
      rw [hx2] at hn4 ht2
      have HN := hide hn4; have HX1 := hide hx1; have HX2 := hide hx2; have HC1 := hide hc1
      clear hp hc0 hc1 hn4 hx1 hx2
      go_wp2_with fail
      refine (rtext_any (s := p.1) wr (by omega)).mono ?_
      rw [HX1.out]
      rintro e w3 ⟨v3, rfl, ho3, hu3⟩
      obtain ⟨a3, c3, rfl, -, -, -⟩ := owns_slice ho3
      have S3 := hide (src_own ho3 (by simp [u8v, Value.oneCell'])); have OB := hide (owns_upd O.out hu3 (by simp)); have U3 := hide (U.out.trans hu3)
      have hz3 := hu3.size
      clear ho3 hu3 k0
      go_wp2_with (at_builtin; go_must (refine wpList_append_src _ rfl _ _ 22 rfl w.heap.size 5 i0 (.int .u8 0) 1 1 Tryz.underlying22 hi hz0 hz1 hz2 rfl (by decide) (.slice ab Bs.length cb) Bs.length (Bs.map u8v) rfl OB.out a3 x1.length c3 (x1.map u8v) rfl S3.out (by unfold maxLen; omega) (by omega) (by omega) ?_))
      intro ao4 cap4 w4 hown4 hU4 hn5
      have hl4 := owns_lt hown4
      have U4 := hide (U3.out.trans_new hU4 (fun k hk => .inr (hol k (by simpa using hk)).1))
      obtain ⟨B2, hB2⟩ : ∃ x, Bs ++ x1 = x := ⟨_, rfl⟩
      have h2l : B2.length = Bs.length + x1.length := by rw [← hB2, List.length_append]
      rw [← h2l] at hown4 ⊢
      have O4 := hide (show w4.ownsRow w.heap.size 5 1 (.slice ao4 B2.length cap4) B2.length (B2.map u8v) by rw [← hB2] at hown4 ⊢; simpa using hown4)
      have HN2 := hide (show B2 ++ x2 = B1 ++ (m.take (j + 1)).flatMap prB by rw [← hB2]; exact HN.out)
      have hz4 := U4.out.size
      have k1 := cell_upd HC1.out U4.out (by simp)
      rw [← h2l] at hl4
      have h2b : B2.length ≤ 2000100 := by omega
      clear hown4 hU4 hn5 hB2 h2l
      go_wp2_with fail
      refine (rtext_any (s := p.2) w4 (by omega)).mono ?_
      rw [HX2.out]
      rintro e w5 ⟨v5, rfl, ho5, hu5⟩
      obtain ⟨a5, c5, rfl, -, -, -⟩ := owns_slice ho5
      have S5 := hide (src_own ho5 (by simp [u8v, Value.oneCell'])); have O5 := hide (owns_upd O4.out hu5 (by simp)); have U5 := hide (U4.out.trans hu5)
      have hz5 := hu5.size
      clear ho5 hu5 k1
      go_wp2_with (at_builtin; go_must (refine wpList_append_src _ rfl _ _ 22 rfl w.heap.size 5 i0 (.int .u8 0) 1 1 Tryz.underlying22 hi hz0 hz1 hz2 rfl (by decide) (.slice ao4 B2.length cap4) B2.length (B2.map u8v) rfl O5.out a5 x2.length c5 (x2.map u8v) rfl S5.out (by unfold maxLen; omega) (by omega) (by omega) ?_))
      intro ao6 cap6 w6 hown6 hU6 hn6
      have U6 := hide (U5.out.trans_new hU6 (fun k hk => .inr (hl4 k (by simpa using hk)).1))
      obtain ⟨B3, hB3⟩ : ∃ x, B2 ++ x2 = x := ⟨_, rfl⟩
      have h3l : B3.length = B2.length + x2.length := by rw [← hB3, List.length_append]
      rw [← h3l] at hown6 ⊢
      have O6 := hide (show w6.ownsRow w.heap.size 5 1 (.slice ao6 B3.length cap6) B3.length (B3.map u8v) by rw [← hB3] at hown6 ⊢; simpa using hown6)
      have HN3 := hide (show B3 = B1 ++ (m.take (j + 1)).flatMap prB by rw [← hB3]; exact HN2.out)
      clear hown6 hU6 hn6 hB3 h3l
      go_wp2_with fail
      go_roundw
      case rel => exact ⟨j + 1, B3, by omega, by go_num, HN3.out, O6.out, U6.out⟩
      case measure => simp [RowKit.intOf]; omega
    · have d5 : decide ((j : Int) < m.length) = false := by simp; omega
      have d5' : decide (j < m.length) = false := by simpa using hlt
      have hje : m.take j = m := List.take_of_length_le (by omega)
      have hb2 := HBB.out
      rw [hje] at hb2
      subst hb2
      clear hlt hje HBB
      go_wp2_with fail
      go_ret
      exact ⟨_, rfl, O.out, U.out⟩
end Go.Proofs.YthpnnffogbjhpaaGreatDoor.Kv
