/- quoratelaw03.FrameRows returns true, and turns nothing that was there. -/
import Derived.Test.YtmgdhloehkdffaaDoorFrTell
import Derived.Test.YtmgdhloehkdffaaDoorFrRowM
namespace Go.Proofs.YtmgdhloehkdffaaDoor.FrL
open Go.RowKit Go.Proofs.YtmgdhloehkdffaaDoor.Var Go.Proofs.YtmgdhloehkdffaaDoor.Crc Go.Proofs.YtmgdhloehkdffaaDoor.Fr

theorem infoI : (Tryd.prog.info? 3).map (fun i => (i.zero, i.size, i.bytes)) = some (some (.int .i64 0), 1, 8) := by kernel_rfl
/-- The ends of the first k frames, as values. -/
def endv (l : List (List UInt8)) (k : Nat) : List Value := (List.range k).map fun i => .int .i64 (ends l (i + 1) : Nat)
theorem endv_succ (l : List (List UInt8)) (k : Nat) : endv l (k + 1) = endv l k ++ [.int .i64 (ends l (k + 1) : Nat)] := by simp [endv, List.range_succ]
/-- Rows that this law looks at. -/
def Okl (l : List (List UInt8)) (k : Nat) : Prop := ∀ i, i < k → 0 < (l.getD i []).length ∧ (l.getD i []).length ≤ 200
/-- What loop one leaves. -/
structure Framed (w W : World) (ls : List (List UInt8)) (k q : Nat) (bo : Option Addr) (bc : Nat) (eo : Option Addr) (ec : Nat) : Prop where
  upd : Upd [] w W
  row : W.ownsRow w.heap.size 5 1 (.slice bo q bc) q ((frs (ls.take k)).map u8v)
  en : W.ownsRow w.heap.size 3 1 (.slice eo k ec) k (endv ls k)
  ne : ∀ g, (Value.slice bo q bc).ownBlock = some g → (Value.slice eo k ec).ownBlock ≠ some g
  len : ends ls k = q
  ok : Okl ls k

theorem owns_set {w : World} {base g n cap j : Nat} {e : TypeId} {xs : List Value} (h : w.ownsRow base e 1 (.slice (some ⟨g, 0, none⟩) n cap) n xs) (_ : j < n) (u : Value) :
    (w.setCell ⟨g, j, none⟩ u).ownsRow base e 1 (.slice (some ⟨g, 0, none⟩) n cap) n (xs.set j u) := by
  refine ⟨by rw [List.length_set]; exact h.1, ?_⟩
  rcases h.2 with ⟨e1, -⟩ | ⟨g', cap', cur, e1, hb, hh, h1, h2, h3, h4⟩
  · cases e1
  · cases e1
    refine .inr ⟨g, cap, cur.setIfInBounds j u, rfl, hb, blk_set hh u, h1, h2, by rw [Array.size_setIfInBounds]; exact h3, ?_⟩
    rw [← h4, Array.toList_setIfInBounds, Nat.mul_one, List.take_set]
set_option maxRecDepth 100000 in
set_option maxHeartbeats 8000000 in
theorem rows_any {ao : Option Addr} {len cap cut turn : Nat} {ls : List (List UInt8)} (w : World) (hst : TabAt w) (hl : ReadsRows w (.slice ao len cap) ls) (hlen : ls.length = len) (hcut : cut < 65536) (hturn : turn < 65536) :
    Calls Tryd.prog 5 #[.slice ao len cap, .int .u16 (cut : Int), .int .u16 (turn : Int)] w fun e w' => e = .returned (.bool true) ∧ Upd [] w w' := by
  obtain ⟨ao', cap', e1, hl1, hl2, hcells⟩ := hl
  have hcc : ao = ao' ∧ cap = cap' := by cases e1; exact ⟨rfl, rfl⟩
  obtain ⟨rfl, rfl⟩ := hcc
  rw [hlen] at hl1
  have HST := hide hst; have HC := hide hcells; have HLEN := hide hlen
  have hg0 := hst.lt
  obtain ⟨i0, hi, hz0, hz1, hz2⟩ := info_parts infoB
  obtain ⟨i1, hi1, hy0, hy1, hy2⟩ := info_parts infoI
  simp only [maxLen] at hl2
  clear hst hcells hlen e1
  go_enter Tryd.func5, Tryd.ntmps5
  go_upto_block 0 with fail
  go_cut [7, 8] (fun sb se wx => ∃ (q : Nat) (bo : Option Addr) (bc : Nat) (eo : Option Addr) (ec : Nat), sb = .slice bo q bc ∧ se = .slice eo len ec ∧ len ≤ 20 ∧ Framed w wx ls len q bo bc eo ec)
  case first => as_aux_lemma =>
    go_wp2_with fail
    go_loopw [7, 8, 9] (fun sb se si wr => ∃ (k q : Nat) (bo : Option Addr) (bc : Nat) (eo : Option Addr) (ec : Nat), k ≤ len ∧ k ≤ 20 ∧ si = .int .i64 k ∧ sb = .slice bo q bc ∧ se = .slice eo k ec ∧ Framed w wr ls k q bo bc eo ec) (fun _ _ si _ => len - (intOf si).toNat)
    case atStart => exact ⟨0, 0, none, 0, none, 0, by omega, by omega, rfl, rfl, rfl, ⟨Upd.refl _ _, ⟨rfl, .inl ⟨rfl, rfl⟩⟩, ⟨rfl, .inl ⟨rfl, rfl⟩⟩, (fun g h => by cases h), ends_zero ls, fun i h => by omega⟩⟩
    case round =>
      obtain ⟨k, q, bo, bc, eo, ec, hk, hk20, rfl, rfl, rfl, hf⟩ := hrel
      have F := hide hf
      clear hf
      by_cases hlt : k < len
      · have d1 : decide ((k : Int) < len) = true := by simp; omega
        have d1' : decide (k < len) = true := by simpa using hlt
        obtain ⟨x, hx⟩ : ∃ x, ls[k]? = some x := ⟨_, List.getElem?_eq_getElem (by rw [HLEN.out]; exact hlt)⟩
        have hxg : ls.getD k [] = x := by rw [List.getD_eq_getElem?_getD, hx]; rfl
        obtain ⟨b, off, xo, n, c, e2, hcl, hs, hnc, hcm⟩ := HC.out k x hx
        subst e2
        have hxl : x.length = n := by have := hs.len; simpa using this
        have hxlt : ∀ a, xo = some a → 0 < n → a.block < w.heap.size := fun a e h0 => by
          obtain ⟨b, off, e2, h2⟩ := src_at (j := 0) hs h0
          rw [e] at e2
          cases e2
          exact World.block_lt_of_cell? w ⟨b, off + 0, none⟩ h2
        have HXLT := hide hxlt
        have hcl' := F.out.upd.of_cell hcl
        have hs' := src_upd_nil hs F.out.upd
        have HS := hide hs'; have HXG := hide hxg; have HXL := hide hxl; have HX := hide hx
        clear hs hs' hcl hxg hxl hx hxlt
        by_cases hok : 0 < n ∧ n ≤ 200 ∧ k < 20
        · obtain ⟨o1, o2, o3⟩ := hok
          have q1 : ((n : Int) == 0) = false := by simp; omega
          have q2 : decide ((200 : Int) < n) = false := by simp; omega
          have q3 : decide ((20 : Int) ≤ k) = false := by simp; omega
          have hql : q ≤ 5000 := by
            have h1 := F.out.len
            have h2 : (frs (ls.take k)).length ≤ (ls.take k).length * (14 + 200) := frs_len (fun y hy => by
              obtain ⟨j, hj, rfl⟩ := List.getElem_of_mem hy
              rw [List.length_take] at hj
              have := F.out.ok j (by omega)
              rw [List.getElem_take]
              rw [List.getD_eq_getElem?_getD, List.getElem?_eq_getElem (by omega)] at this
              exact this.2) (by decide)
            have h3 : (ls.take k).length = k := by rw [List.length_take, HLEN.out]; omega
            rw [h3] at h2
            have h4 : (frs (ls.take k)).length = q := h1
            omega
          have hrow : Hid ((frs (ls.take k)).length = q) := F.out.len
          go_wp2_with fail
          refine (put_any (base := w.heap.size) (bs := frs (ls.take k)) (ins := x) (n := n) _ (HST.out.upd F.out.upd (by simp)) (by rw [hrow.out]; exact F.out.row) F.out.upd.size (by rw [hrow.out]; omega) HS.out o1 (by omega) (fun a e h => by
            have h1 := HXLT.out a e o1
            have h2 := (owns_lt F.out.row _ h).1
            omega)).mono ?_
          rintro e w3 ⟨v3, rfl, hg⟩
          have hfx : frs (ls.take k) ++ fr x = frs (ls.take (k + 1)) := by
            rw [List.take_succ_eq_append_getElem (by rw [HLEN.out]; exact hlt), frs_append]
            have := HX.out
            rw [List.getElem?_eq_getElem (by rw [HLEN.out]; exact hlt)] at this
            simp only [Option.some.injEq] at this
            rw [this]
            simp [frs]
          have ho3 := hg.own
          have hn3 := hg.new
          rw [hfx] at ho3
          obtain ⟨q3, hq3⟩ : ∃ q3, (frs (ls.take (k + 1))).length = q3 := ⟨_, rfl⟩
          rw [hq3] at ho3
          obtain ⟨bo3, bc3, rfl, hc31, hc32, -⟩ := owns_slice ho3
          have O3 := hide ho3; have N3 := hide hn3; have Q3 := hide hq3
          have UG := hide hg.upd
          have U3 := hide (F.out.upd.trans_new hg.upd (fun k' hk' => by
            simp only [Option.mem_toList] at hk'
            exact .inr (owns_lt F.out.row k' hk').1))
          have hz3 := hg.upd.size
          have hen3 := owns_upd F.out.en hg.upd (fun g hg1 hg2 => by
            simp only [Option.mem_toList] at hg2
            exact F.out.ne g hg2 hg1)
          have EN3 := hide hen3
          clear hg ho3 hfx hq3 hn3 hen3
          go_wp2_with (at_builtin; go_must (refine wpList_append_src _ rfl _ _ 35 rfl w.heap.size 3 i1 (.int .i64 0) 1 8 Tryd.underlying35 hi1 hy0 hy1 hy2 rfl (by decide) (.slice eo k ec) k (endv ls k) rfl (EN3.out.alloc _) (some ⟨w3.heap.size, 0, none⟩) 1 1 [.int .i64 (q3 : Int)] rfl (src_one (cell_new1 rfl) rfl) (by unfold maxLen; omega) (by omega) (Nat.le_trans U3.out.size (by simp)) ?_))
          intro eo4 ec4 w4 hown4 hU4 hn4
          have hne4 : ∀ g, (Value.slice bo3 q3 bc3).ownBlock = some g → g ∉ (Value.slice eo k ec).ownBlock.toList := fun g hg1 hm => by
            simp only [Option.mem_toList] at hm
            rcases N3.out g hg1 with h1 | h1
            · exact F.out.ne g h1 hm
            · have := (owns_lt F.out.en g hm).2; omega
          have F4 := hide (Framed.mk (w := w) (W := w4) (ls := ls) (k := k + 1) (q := q3) (bo := bo3) (bc := bc3) (eo := eo4) (ec := ec4)
            ((U3.out.alloc _).trans_new hU4 (fun k' hk' => by
              simp only [Option.mem_toList] at hk'
              exact .inr (owns_lt EN3.out k' hk').1))
            (owns_upd (O3.out.alloc _) hU4 hne4)
            (by rw [endv_succ, show ends ls (k + 1) = q3 from Q3.out]; exact hown4)
            (fun g hg1 hg2 => by
              rcases hn4 g hg2 with h1 | h1
              · exact hne4 g hg1 (by simpa using h1)
              · have := (owns_lt O3.out g hg1).2; try simp at h1
                omega)
            Q3.out
            (fun i hi => by
              by_cases h : i = k
              · subst h; rw [HXG.out, HXL.out]; exact ⟨o1, o2⟩
              · exact F.out.ok i (by omega)))
          clear hown4 hU4 hn4 hne4
          go_wp2_with fail
          go_roundw
          case rel => exact ⟨k + 1, q3, bo3, bc3, eo4, ec4, by omega, by omega, by go_num, rfl, rfl, F4.out⟩
          case measure => simp [intOf]; omega
        · have q1 : ((n : Int) == 0) = true ∨ ((n : Int) == 0) = false ∧ (decide ((200 : Int) < n) = true ∨ decide ((200 : Int) < n) = false ∧ decide ((20 : Int) ≤ k) = true) := by
            by_cases h1 : n = 0
            · exact .inl (by simp; omega)
            · by_cases h2 : 200 < n
              · exact .inr ⟨by simp; omega, .inl (by simp; omega)⟩
              · exact .inr ⟨by simp; omega, .inr ⟨by simp; omega, by simp; omega⟩⟩
          have HW := hide (wakes_any wr (HST.out.upd F.out.upd (by simp)))
          clear hok
          rcases q1 with q1 | ⟨q1, q2 | ⟨q2, q3⟩⟩
          all_goals
            go_wp2_with fail
            refine HW.out.mono ?_
            rintro e w3 ⟨rfl, hu3⟩
            have U3 := hide (F.out.upd.trans hu3)
            clear hu3
            go_wp2_with fail
            go_ret
            exact ⟨rfl, U3.out⟩
      · have d1 : decide ((k : Int) < len) = false := by simp; omega
        have d1' : decide (k < len) = false := by simpa using hlt
        have hkl : k = len := by omega
        have F' : Hid (Framed w wr ls len q bo bc eo ec) := by rw [← hkl]; exact F.out
        have e9 : Hid (Value.slice eo k ec = .slice eo len ec) := by rw [hkl]; rfl
        have hl20 : len ≤ 20 := by omega
        clear hkl
        go_wp2_with fail
        go_meet
        exact ⟨q, bo, bc, eo, ec, rfl, e9.out, hl20, F'.out⟩
  case rest =>
  obtain ⟨q, bo, bc, eo, ec, rfl, rfl, hl20, hf⟩ := hcut
  have F := hide hf
  clear hf
  have hq5 : q ≤ 5000 := by
    have h1 := F.out.len
    have h2 : (frs (ls.take len)).length ≤ (ls.take len).length * (14 + 200) := frs_len (fun y hy => by
      obtain ⟨j, hj, rfl⟩ := List.getElem_of_mem hy
      rw [List.length_take] at hj
      have := F.out.ok j (by omega)
      rw [List.getElem_take]
      rw [List.getD_eq_getElem?_getD, List.getElem?_eq_getElem (by omega)] at this
      exact this.2) (by decide)
    have h3 : (ls.take len).length = len := by rw [List.length_take, HLEN.out]; omega
    rw [h3] at h2
    have h4 : (frs (ls.take len)).length = q := h1
    omega
  have hfull : ls.take len = ls := List.take_of_length_le (by rw [HLEN.out]; exact Nat.le_refl _)
  have hfit : ∀ x ∈ ls, Fit x := fun x hx => by
    obtain ⟨j, hj, rfl⟩ := List.getElem_of_mem hx
    have := F.out.ok j (by rw [HLEN.out] at hj; exact hj)
    rw [List.getD_eq_getElem?_getD, List.getElem?_eq_getElem hj] at this
    have h1 : 0 < ls[j].length ∧ ls[j].length ≤ 200 := this
    exact ⟨List.length_pos_iff.1 h1.1, by omega⟩
  have hfl : (frs ls).length = q := by have := F.out.len; rw [ends, hfull] at this; exact this
  have hrow := F.out.row
  rw [hfull] at hrow
  obtain ⟨n, hn⟩ : ∃ n, cut % (q + 1) = n := ⟨_, rfl⟩
  have en : (cut : Int) % ((q : Int) + 1) = (n : Int) := by rw [← hn]; simp
  have hnq : n ≤ q := by have := Nat.mod_lt cut (show 0 < q + 1 by omega); omega
  have ROW := hide hrow; have FIT := hide hfit; have FL := hide hfl
  have hcel : 0 < len → ∃ g, eo = some ⟨g, 0, none⟩ ∧ ∀ i, i < len → wc.cell? ⟨g, i, none⟩ = some (.int .i64 (ends ls (i + 1) : Nat)) := fun hk0 => by
    obtain ⟨ao', cap', e1, -, -, h⟩ := owns_slice F.out.en
    cases e1
    obtain ⟨g, e, -, -, h2⟩ := h 0 (.int .i64 (ends ls (0 + 1) : Nat)) (by simp [endv, hk0])
    refine ⟨g, e, fun i hi => ?_⟩
    obtain ⟨g', e', -, -, h3⟩ := h i (.int .i64 (ends ls (i + 1) : Nat)) (by simp [endv, hi])
    rw [e] at e'
    cases e'
    exact h3
  have CEL := hide hcel
  clear hrow hfit hfl hfull hn hcel
  go_upto_block 2 with fail
  simp only [en]
  go_cut [12, 13] (fun sn si wx => wx = wc ∧ sn = .int .i64 (n : Int) ∧ ∃ j : Nat, j ≤ len ∧ si = .int .i64 j ∧ ends ls j ≤ n ∧ (j < len → n < ends ls (j + 1)))
  case first => as_aux_lemma =>
    go_wp2_with fail
    go_loop [13] (fun si => ∃ j : Nat, j ≤ len ∧ si = .int .i64 j ∧ ends ls j ≤ n) (fun si => len - (intOf si).toNat)
    case atStart => exact ⟨0, by omega, rfl, by rw [ends_zero]; omega⟩
    case round =>
      obtain ⟨j, hj, rfl, hej⟩ := hrel
      by_cases hjk : j < len
      · obtain ⟨g, rfl, hc⟩ := CEL.out (by omega)
        have hcl := hc j hjk
        have d3 : decide ((j : Int) < len) = true := by simp; omega
        have d3' : decide (j < len) = true := by simpa using hjk
        obtain ⟨ej, hej1⟩ : ∃ e, ends ls (j + 1) = e := ⟨_, rfl⟩
        rw [hej1] at hcl
        have HEJ := hide hej1
        clear hej1 hc
        by_cases hgo : ej ≤ n
        · have d4 : decide ((ej : Int) ≤ n) = true := by simp; omega
          have d4' : decide (ej ≤ n) = true := by simpa using hgo
          go_wp2_with fail
          go_round
          case rel => exact ⟨j + 1, by omega, by go_num, by rw [HEJ.out]; exact hgo⟩
          case measure => simp [intOf]; omega
        · have d4 : decide ((ej : Int) ≤ n) = false := by simp; omega
          have d4' : decide (ej ≤ n) = false := by simpa using hgo
          have hs : Hid (j < len → n < ends ls (j + 1)) := by show j < len → n < ends ls (j + 1); intro _; rw [HEJ.out]; omega
          go_wp2_with fail
          go_meet
          exact ⟨rfl, rfl, j, hj, rfl, hej, hs.out⟩
      · have d3 : decide ((j : Int) < len) = false := by simp; omega
        have d3' : decide (j < len) = false := by simpa using hjk
        have hs : Hid (j < len → n < ends ls (j + 1)) := by show j < len → n < ends ls (j + 1); intro h; omega
        go_wp2_with fail
        go_meet
        exact ⟨rfl, rfl, j, hj, rfl, hej, hs.out⟩
  case rest =>
  obtain ⟨rfl, rfl, j, hj, rfl, hej, hstop⟩ := hcut
  have HSTOP := hide hstop
  have hrd : all ((frs ls).take n) = (ls.take j, ends ls j, if n = ends ls j then 0 else 10) :=
    all_cut_row FIT.out (by rw [HLEN.out]; exact hj) hej (fun h => HSTOP.out (by rw [HLEN.out] at h; exact h)) (by rw [FL.out]; exact hnq)
  have hbc : q ≤ bc ∧ bc ≤ maxLen := by obtain ⟨ao', cap', e1, h, h', -⟩ := owns_slice ROW.out; cases e1; exact ⟨h, h'⟩
  obtain ⟨hbc1, hbc2⟩ := hbc
  have r1 := run_cut_h (P := Tryd.prog) 22 5 Tryd.underlying22 sizeB bo q bc n (n : Int) rfl (by omega)
  simp only [maxLen] at hbc2
  have htl : (ls.take j).length = j := by rw [List.length_take, HLEN.out]; omega
  obtain ⟨p, hp⟩ : ∃ p, ends ls j = p := ⟨_, rfl⟩
  obtain ⟨er, her⟩ : ∃ er : Int, (if n = p then 0 else 10) = er := ⟨_, rfl⟩
  rw [hp, her] at hrd
  rw [hp] at hej
  have hcl2 : (n = p ∧ er = 0) ∨ (n ≠ p ∧ er = 10) := by
    by_cases h : n = p
    · exact .inl ⟨h, by rw [← her, if_pos h]⟩
    · exact .inr ⟨h, by rw [← her, if_neg h]⟩
  have RD := hide hrd; have HTL := hide htl; have HP := hide hp; have HCL := hide hcl2
  clear hstop hrd htl hp her hcl2
  go_wp2_with fail
  refine (Fr.all_any (bs := (frs ls).take n) _ (HST.out.upd F.out.upd (by simp)) (src_head (src_ownB ROW.out) hnq hbc1) (by omega) (by unfold maxLen; omega) (by omega)).mono ?_
  rw [RD.out]
  rintro e w6 ⟨v6, vs6, rfl, ho6, hu6⟩
  have hr6 := ho6.reads
  simp only [] at hr6
  obtain ⟨ao6, cp6, rfl, hl6, hm6, hx6⟩ := hr6
  rw [HTL.out] at hl6 ⊢
  have X6 := hide hx6; have U6 := hide (F.out.upd.trans hu6); have R6 := hide hu6
  simp only [maxLen] at hm6
  clear hx6 hu6 ho6
  go_upto_region 18 with fail
  obtain ⟨cb, hcb⟩ : ∃ cb, decide (n = p) = cb := ⟨_, rfl⟩
  have zer : (er = 0 ∧ cb = true) ∨ (er = 10 ∧ cb = false) := by
    rcases HCL.out with ⟨h1, h2⟩ | ⟨h1, h2⟩
    · exact .inl ⟨h2, by rw [← hcb, decide_eq_true h1]⟩
    · exact .inr ⟨h2, by rw [← hcb, decide_eq_false h1]⟩
  have HCB := hide hcb; have ZER := hide zer
  clear hcb zer
  go_cut [17] (fun sc wx => wx = w6 ∧ sc = .bool cb)
  case first => as_aux_lemma =>
    rcases Nat.eq_zero_or_pos j with hj0 | hj0
    · have hp0 : p = 0 := by rw [← HP.out, hj0, ends_zero]
      have z1 : ((j : Int) == 0) = true := by simp; omega
      have z5 : ((n : Int) == 0) = cb := by rw [← HCB.out, Bool.eq_iff_iff]; simp; omega
      have z6 : decide (0 < j) = false := by simp; omega
      have z7 : decide ((0 : Int) < j) = false := by simp; omega
      clear hp0 hj0
      cases cb <;> (go_wp2_with fail; go_meet; exact ⟨rfl, rfl⟩)
    · have z5 : ((p : Int) == n) = cb := by rw [← HCB.out, Bool.eq_iff_iff]; simp; omega
      obtain ⟨j', rfl⟩ : ∃ j', j = j' + 1 := ⟨j - 1, by omega⟩
      obtain ⟨g, rfl, hc⟩ := CEL.out (by omega)
      have hcp := R6.out.of_cell (hc j' (by omega))
      rw [HP.out] at hcp
      have z1 : ((j' : Int) + 1 == 0) = false := by simp; omega
      have z2 : decide ((0 : Int) < (j' : Int) + 1) = true := decide_eq_true (by omega)
      have z2' : decide (0 < j' + 1) = true := decide_eq_true (by omega)
      have hjl : j' < len := by omega
      clear hc hj0
      cases cb <;> (go_wp2_with fail; go_meet; exact ⟨rfl, rfl⟩)
  case rest =>
  obtain ⟨rfl, rfl⟩ := hcut
  go_upto_region 19 with fail
  go_cut [152] (fun sc wx => wx = wc ∧ sc = .bool false)
  case first => as_aux_lemma =>
    rcases Nat.eq_zero_or_pos j with hj0 | hj0
    · have hp0 : p = 0 := by rw [← HP.out, hj0, ends_zero]
      have z1 : ((j : Int) == 0) = true := by simp; omega
      have z3 : ((p : Int) == 0) = true := by simp; omega
      have z8 : ((p : Int) != 0) = false := by simp; omega
      have z6 : decide (0 < j) = false := by simp; omega
      have z7 : decide ((0 : Int) < j) = false := by simp; omega
      clear hp0 hj0
      rcases ZER.out with ⟨rfl, rfl⟩ | ⟨rfl, rfl⟩ <;> (go_wp2_with fail; go_meet; exact ⟨rfl, rfl⟩)
    · skip
      obtain ⟨j', rfl⟩ : ∃ j', j = j' + 1 := ⟨j - 1, by omega⟩
      obtain ⟨g, rfl, hc⟩ := CEL.out (by omega)
      have hcp := R6.out.of_cell (hc j' (by omega))
      rw [HP.out] at hcp
      have z1 : ((j' : Int) + 1 == 0) = false := by simp; omega
      have z2 : decide ((0 : Int) < (j' : Int) + 1) = true := decide_eq_true (by omega)
      have z2' : decide (0 < j' + 1) = true := decide_eq_true (by omega)
      have hjl : j' < len := by omega
      clear hc hj0
      rcases ZER.out with ⟨rfl, rfl⟩ | ⟨rfl, rfl⟩ <;> (go_wp2_with fail; go_meet; exact ⟨rfl, rfl⟩)
  case rest =>
  obtain ⟨rfl, rfl⟩ := hcut
  go_upto_block 4 with fail
  go_cut [] (fun wx => Upd [] wc wx)
  case first => as_aux_lemma =>
    go_wp2_with fail
    go_loopw [18] (fun si wr => ∃ i : Nat, i ≤ j ∧ si = .int .i64 i ∧ Upd [] wc wr) (fun si _ => j - (intOf si).toNat)
    case atStart => exact ⟨0, by omega, rfl, Upd.refl _ _⟩
    case round =>
      obtain ⟨i, hi, rfl, hu⟩ := hrel
      have HU := hide hu
      clear hu
      by_cases hlt3 : i < j
      · have d5 : decide ((i : Int) < j) = true := by simp; omega
        have d5' : decide (i < j) = true := by simpa using hlt3
        obtain ⟨l, hl⟩ : ∃ l, ls[i]? = some l := ⟨_, List.getElem?_eq_getElem (by rw [HLEN.out]; omega)⟩
        obtain ⟨b6, of6, xo6, n6, c6, e6, hcl6, hsr6, -⟩ := X6.out i l (by rw [List.getElem?_take, if_pos hlt3]; exact hl)
        obtain ⟨b7, of7, xo7, n7, c7, e7, hcl7, hsr7, -⟩ := HC.out i l hl
        subst e6; subst e7
        have hcl6' := HU.out.of_cell hcl6
        have hcl7' := (U6.out.trans HU.out).of_cell hcl7
        have hcv6 := fun nq => run_str (src_upd_nil hsr6 (HU.out.drewN nq))
        have hcv7 := fun nq => run_str (src_upd_nil hsr7 ((U6.out.trans HU.out).drewN nq))
        have hq := strOf_eq l l
        rw [decide_eq_true rfl] at hq
        have hik : i < len := by omega
        clear hsr6 hsr7 hcl6 hcl7 hl
        go_wp2_with fail
        go_quiet (fail)
        go_wp2_with fail
        go_roundw
        case rel => exact ⟨i + 1, by omega, by go_num, HU.out.drewN _⟩
        case measure => simp [intOf]; omega
      · have d5 : decide ((i : Int) < j) = false := by simp; omega
        have d5' : decide (i < j) = false := by simpa using hlt3
        go_wp2_with fail
        go_meet
        exact HU.out
  case rest =>
  have U7 := hide (U6.out.trans hcut)
  have R7 := hide (R6.out.trans hcut)
  clear hcut
  as_aux_lemma =>
  rcases Nat.eq_zero_or_pos len with hl0 | hl0
  · have z1 : ((len : Int) == 0) = true := by simp; omega
    have HW := hide (wakes_any wc (HST.out.upd U7.out (by simp)))
    clear hl0
    go_wp2_with fail
    refine HW.out.mono ?_
    rintro e w8 ⟨rfl, hu8⟩
    have U8 := hide (U7.out.trans hu8)
    clear hu8
    go_wp2_with fail
    go_ret
    exact ⟨rfl, U8.out⟩
  · have z1 : ((len : Int) == 0) = false := by simp; omega
    obtain ⟨i, hie⟩ : ∃ i, turn % len = i := ⟨_, rfl⟩
    have ei : (turn : Int) % (len : Int) = (i : Int) := by rw [← hie]; simp
    have hil : i < len := by rw [← hie]; exact Nat.mod_lt _ hl0
    obtain ⟨g, rfl, hc⟩ := CEL.out hl0
    have hcle := R7.out.of_cell (hc i hil)
    obtain ⟨x, hx⟩ : ∃ x, ls[i]? = some x := ⟨_, List.getElem?_eq_getElem (by rw [HLEN.out]; exact hil)⟩
    have hxg : ls.getD i [] = x := by rw [List.getD_eq_getElem?_getD, hx]; rfl
    obtain ⟨b7, of7, xo7, n7, c7, e7, hcl7, hsr7, -⟩ := HC.out i x hx
    subst e7
    have hxl : x.length = n7 := by have := hsr7.len; simpa using this
    have hclx := U7.out.of_cell hcl7
    have hok := F.out.ok i hil
    rw [hxg, hxl] at hok
    obtain ⟨o1, o2⟩ := hok
    have hes := ends_succ (l := ls) (k := i) (by rw [HLEN.out]; exact hil)
    rw [hxg, fr_len, hxl] at hes
    have hem : ends ls (i + 1) ≤ q := by have h1 := ends_mono (l := ls) (i := i + 1) (j := len) (by omega) (by rw [HLEN.out]; exact Nat.le_refl _); rw [F.out.len] at h1; exact h1
    obtain ⟨p1, hp1⟩ : ∃ p, ends ls (i + 1) = p := ⟨_, rfl⟩
    rw [hp1] at hcle hes hem
    have hp1b : n7 + 4 ≤ p1 := by omega
    obtain ⟨bit, hbit⟩ : ∃ bit, turn % (8 * (n7 + 4)) = bit := ⟨_, rfl⟩
    have eb : (turn : Int) % (8 * ((n7 : Int) + 4)) = (bit : Int) := by rw [← hbit]; simp
    have hbl : bit < 8 * (n7 + 4) := by rw [← hbit]; exact Nat.mod_lt _ (by omega)
    obtain ⟨from_, hfr⟩ : ∃ f, p1 - n7 - 4 = f := ⟨_, rfl⟩
    have ef : (p1 : Int) - (n7 : Int) - 4 = (from_ : Int) := by omega
    have HXG := hide hxg; have HXL := hide hxl; have HP1 := hide hp1; have HFR := hide hfr
    clear hie hc hx hcl7 hsr7 hxg hxl hes hp1 hbit hfr
    go_upto_region 29 with fail
    simp only [ei]
    have w1 : IntKind.i64.wrap ((p1 : Int) - (n7 : Int)) = (p1 : Int) - (n7 : Int) := IntWalk.i64_in _ (by omega)
    have w2 : IntKind.i64.wrap (from_ : Int) = (from_ : Int) := IntWalk.i64_in _ (by omega)
    go_quiet (fail)
    clear w1 w2
    go_upto_region 31 with fail
    simp only [eb]
    have row7 := owns_upd ROW.out (R7.out.drewN (nq + 1)) (by simp)
    obtain ⟨gb, rfl, hgb⟩ : ∃ gb, bo = some ⟨gb, 0, none⟩ ∧ ∀ P, P < q → (wc.drewN (nq + 1)).cell? ⟨gb, P, none⟩ = some (.int .u8 (((frs ls).getD P 0).toNat : Nat)) := by
      obtain ⟨ao', cap', e1, -, -, h⟩ := owns_slice row7
      cases e1
      have hu : ∀ P, P < q → ((frs ls).map u8v)[P]? = some (.int .u8 (((frs ls).getD P 0).toNat : Nat)) := fun P hP => by
        rw [List.getElem?_map, List.getElem?_eq_getElem (by rw [FL.out]; exact hP), List.getD_eq_getElem?_getD, List.getElem?_eq_getElem (by rw [FL.out]; exact hP)]
        rfl
      obtain ⟨gb, e, -⟩ := h 0 _ (hu 0 (by omega))
      refine ⟨gb, e, fun P hP => ?_⟩
      obtain ⟨gb', e', -, -, h2⟩ := h P _ (hu P hP)
      rw [e] at e'
      cases e'
      exact h2
    obtain ⟨bq, hbq⟩ : ∃ b, bit / 8 = b := ⟨_, rfl⟩
    obtain ⟨br, hbr⟩ : ∃ b, bit % 8 = b := ⟨_, rfl⟩
    have eq8 : (bit : Int).tdiv 8 = (bq : Int) := by rw [← hbq]; exact Int.tdiv_eq_ediv_of_nonneg (by omega)
    have er8 : (bit : Int).tmod 8 = (br : Int) := by rw [← hbr]; exact Int.tmod_eq_emod_of_nonneg (by omega)
    have eq8' : (bit : Int) / 8 = (bq : Int) := by omega
    have er8' : (bit : Int) % 8 = (br : Int) := by omega
    have hpq : from_ + bq < q := by have := HFR.out; omega
    have hbr8 : br < 8 := by omega
    have hcy := hgb (from_ + bq) hpq
    obtain ⟨y0, hy0⟩ : ∃ y, ((frs ls).getD (from_ + bq) 0).toNat = y := ⟨_, rfl⟩
    rw [hy0] at hcy
    have w3 : IntKind.i64.wrap ((from_ : Int) + (bq : Int)) = (from_ : Int) + (bq : Int) := IntWalk.i64_in _ (by omega)
    have w4 : IntKind.i64.wrap (bq : Int) = (bq : Int) := IntWalk.i64_in _ (by omega)
    have w5 : IntKind.i64.wrap (br : Int) = (br : Int) := IntWalk.i64_in _ (by omega)
    have w6 : ((from_ : Int) + (bq : Int)).toNat = from_ + bq := by omega
    have w7 : (0 : Int) ≤ (from_ : Int) + (bq : Int) := by omega
    have w8 : (from_ : Int) + (bq : Int) < (q : Int) := by omega
    have ROW7 := hide row7; have HBQ := hide hbq; have HBR := hide hbr; have HY0 := hide hy0
    clear hgb row7 hbq hbr hy0
    have hcy' : (wc.drewN (nq + 1)).cell? ⟨gb, from_ + bq, none⟩ = some (.int .u8 (y0 : Int)) := hcy
    refine wp_region_z (fun w' => w'.cell? ⟨gb, from_ + bq, none⟩ = some (.int .u8 (y0 : Int))) 17 (by kernel_rfl) ?_
    refine wpAnyZ_takeE 0 rfl (by kernel_rfl) (by kernel_rfl) (by kernel_rfl) (by kernel_rfl) (fun _ _ _ _ h => h) rfl (by exact hcy') ?_
    apply Exists.intro
    refine ⟨fun wx hS => ?_, ?_⟩
    · have s0 := hS; go_simp; rfl
    simp only [Act.put, List.setIfInBounds_toArray, List.set_cons_succ, List.set_cons_zero, List.getElem_toArray, List.getElem_cons_zero]
    refine wpAnyZ_takeE 1 rfl (by kernel_rfl) (by kernel_rfl) (by kernel_rfl) (by kernel_rfl) (fun _ _ _ _ h => h) rfl (by exact hcy') ?_
    apply Exists.intro
    refine ⟨fun wx hS => ?_, ?_⟩
    · have s0 := hS; go_simp; rfl
    simp only [Act.put, List.setIfInBounds_toArray, List.set_cons_succ, List.set_cons_zero, List.getElem_toArray, List.getElem_cons_succ, List.getElem_cons_zero]
    refine wpAnyZ_takeE 2 rfl (by kernel_rfl) (by kernel_rfl) (by kernel_rfl) (by kernel_rfl) (fun _ _ _ _ h => h) rfl (by exact hcy') ?_
    apply Exists.intro
    refine ⟨fun wx hS => ?_, ?_⟩
    · have s0 := hS; go_simp; rfl
    simp only [Act.put, List.setIfInBounds_toArray, List.set_cons_succ, List.set_cons_zero, List.getElem_toArray, List.getElem_cons_succ, List.getElem_cons_zero]
    refine wpAnyZ_takeE 3 rfl (by kernel_rfl) (by kernel_rfl) (by kernel_rfl) (by kernel_rfl) (fun _ _ _ _ h => h) rfl (by exact hcy') ?_
    apply Exists.intro
    refine ⟨fun wx hS => ?_, ?_⟩
    · have s0 := hS; go_simp; rfl
    simp only [Act.put, List.setIfInBounds_toArray, List.set_cons_succ, List.set_cons_zero, List.getElem_toArray, List.getElem_cons_succ, List.getElem_cons_zero]
    refine wpAnyZ_takeE 4 rfl (by kernel_rfl) (by kernel_rfl) (by kernel_rfl) (by kernel_rfl) (fun _ _ _ _ h => h) rfl (by exact hcy') ?_
    apply Exists.intro
    refine ⟨fun wx hS => ?_, ?_⟩
    · have s0 := hS; go_simp; rfl
    simp only [Act.put, List.setIfInBounds_toArray, List.set_cons_succ, List.set_cons_zero, List.getElem_toArray, List.getElem_cons_succ, List.getElem_cons_zero]
    refine wpAnyZ_takeE 5 rfl (by kernel_rfl) (by kernel_rfl) (by kernel_rfl) (by kernel_rfl) (fun _ _ _ _ h => h) rfl (by exact hcy') ?_
    apply Exists.intro
    refine ⟨fun wx hS => ?_, ?_⟩
    · have s0 := hS; go_simp; rfl
    simp only [Act.put, List.setIfInBounds_toArray, List.set_cons_succ, List.set_cons_zero, List.getElem_toArray, List.getElem_cons_succ, List.getElem_cons_zero]
    refine wpAnyZ_takeE 6 rfl (by kernel_rfl) (by kernel_rfl) (by kernel_rfl) (by kernel_rfl) (fun _ _ _ _ h => h) rfl (by exact hcy') ?_
    apply Exists.intro
    refine ⟨fun wx hS => ?_, ?_⟩
    · have s0 := hS; go_simp; rfl
    simp only [Act.put, List.setIfInBounds_toArray, List.set_cons_succ, List.set_cons_zero, List.getElem_toArray, List.getElem_cons_succ, List.getElem_cons_zero]
    refine wpAnyZ_takeE 7 rfl (by kernel_rfl) (by kernel_rfl) (by kernel_rfl) (by kernel_rfl) (fun _ _ _ _ h => h) rfl (by exact hcy') ?_
    apply Exists.intro
    refine ⟨fun wx hS => ?_, ?_⟩
    · have s0 := hS; go_simp; rfl
    simp only [Act.put, List.setIfInBounds_toArray, List.set_cons_succ, List.set_cons_zero, List.getElem_toArray, List.getElem_cons_succ, List.getElem_cons_zero]
    refine wpAnyZ_takeE 8 rfl (by kernel_rfl) (by kernel_rfl) (by kernel_rfl) (by kernel_rfl) (fun _ _ _ _ h => h) rfl (by exact hcy') ?_
    apply Exists.intro
    refine ⟨fun wx hS => ?_, ?_⟩
    · have s0 := hS; go_simp; rfl
    simp only [Act.put, List.setIfInBounds_toArray, List.set_cons_succ, List.set_cons_zero, List.getElem_toArray, List.getElem_cons_succ, List.getElem_cons_zero]
    refine wpAnyZ_takeE 9 rfl (by kernel_rfl) (by kernel_rfl) (by kernel_rfl) (by kernel_rfl) (fun _ _ _ _ h => h) rfl (by exact hcy') ?_
    apply Exists.intro
    refine ⟨fun wx hS => ?_, ?_⟩
    · have s0 := hS; go_simp; rfl
    simp only [Act.put, List.setIfInBounds_toArray, List.set_cons_succ, List.set_cons_zero, List.getElem_toArray, List.getElem_cons_succ, List.getElem_cons_zero]
    refine wpAnyZ_takeE 10 rfl (by kernel_rfl) (by kernel_rfl) (by kernel_rfl) (by kernel_rfl) (fun _ _ _ _ h => h) rfl (by exact hcy') ?_
    apply Exists.intro
    refine ⟨fun wx hS => ?_, ?_⟩
    · have s0 := hS; go_simp; rfl
    simp only [Act.put, List.setIfInBounds_toArray, List.set_cons_succ, List.set_cons_zero, List.getElem_toArray, List.getElem_cons_succ, List.getElem_cons_zero]
    refine wpAnyZ_takeE 11 rfl (by kernel_rfl) (by kernel_rfl) (by kernel_rfl) (by kernel_rfl) (fun _ _ _ _ h => h) rfl (by exact hcy') ?_
    apply Exists.intro
    refine ⟨fun wx hS => ?_, ?_⟩
    · have s0 := hS; go_simp; rfl
    simp only [Act.put, List.setIfInBounds_toArray, List.set_cons_succ, List.set_cons_zero, List.getElem_toArray, List.getElem_cons_succ, List.getElem_cons_zero]
    refine wpAnyZ_takeE 12 rfl (by kernel_rfl) (by kernel_rfl) (by kernel_rfl) (by kernel_rfl) (fun _ _ _ _ h => h) rfl (by exact hcy') ?_
    apply Exists.intro
    refine ⟨fun wx hS => ?_, ?_⟩
    · have s0 := hS; go_simp; rfl
    simp only [Act.put, List.setIfInBounds_toArray, List.set_cons_succ, List.set_cons_zero, List.getElem_toArray, List.getElem_cons_succ, List.getElem_cons_zero]
    refine wpAnyZ_takeE 13 rfl (by kernel_rfl) (by kernel_rfl) (by kernel_rfl) (by kernel_rfl) (fun _ _ _ _ h => h) rfl (by exact hcy') ?_
    apply Exists.intro
    refine ⟨fun wx hS => ?_, ?_⟩
    · have s0 := hS; go_simp; rfl
    simp only [Act.put, List.setIfInBounds_toArray, List.set_cons_succ, List.set_cons_zero, List.getElem_toArray, List.getElem_cons_succ, List.getElem_cons_zero]
    obtain ⟨sv, hsv⟩ : ∃ s, 2 ^ br = s := ⟨_, rfl⟩
    have hsv0 : 0 < sv := by rw [← hsv]; exact Nat.two_pow_pos br
    have hsv8 : sv < 256 := by rw [← hsv]; exact Nat.lt_of_le_of_lt (Nat.pow_le_pow_right (by decide) (show br ≤ 7 by omega)) (by decide)
    have hy8 : y0 < 256 := by rw [← HY0.out]; exact UInt8.toNat_lt _
    have esh : IntKind.u8.wrap ((2 : Int) ^ br) = (sv : Int) := by
      rw [IntKind.wrap_u8', ← hsv, show ((2 : Int) ^ br) = ((2 ^ br : Nat) : Int) by rw [Int.natCast_pow]; rfl, hsv]
      omega
    obtain ⟨y1, hy1⟩ : ∃ y, y0 ^^^ sv = y := ⟨_, rfl⟩
    have hy18 : y1 < 256 := by rw [← hy1]; exact Nat.xor_lt_two_pow (n := 8) hy8 hsv8
    have exr : Go.bits .xor .u8 (y0 : Int) (sv : Int) = (y1 : Int) := by rw [u8_xor_nat _ _ hy8 hsv8, hy1]
    have hne : y1 ≠ y0 := by
      intro h
      rw [← hy1] at h
      have := congrArg (y0 ^^^ ·) h
      simp only [← Nat.xor_assoc, Nat.xor_self, Nat.zero_xor] at this
      omega
    have HNE := hide hne
    clear hsv hy1 hne
    refine wpAnyZ_takeE 14 rfl (by kernel_rfl) (by kernel_rfl) (by kernel_rfl) (by kernel_rfl) (fun _ _ _ _ h => h) rfl (by exact hcy') ?_
    apply Exists.intro
    refine ⟨fun wx hS => ?_, ?_⟩
    · have s0 := hS; go_simp; rfl
    simp only [Act.put, List.setIfInBounds_toArray, List.set_cons_succ, List.set_cons_zero, List.getElem_toArray, List.getElem_cons_succ, List.getElem_cons_zero]
    refine wpAnyZ_takeE 15 rfl (by kernel_rfl) (by kernel_rfl) (by kernel_rfl) (by kernel_rfl) (fun _ _ _ _ h => h) rfl (by exact hcy') ?_
    apply Exists.intro
    refine ⟨fun wx hS => ?_, ?_⟩
    · have s0 := hS; go_simp; rfl
    simp only [Act.put, List.setIfInBounds_toArray, List.set_cons_succ, List.set_cons_zero, List.getElem_toArray, List.getElem_cons_succ, List.getElem_cons_zero]
    refine wpAnyZ_takeE 16 rfl (by kernel_rfl) (by kernel_rfl) (by kernel_rfl) (by kernel_rfl) (fun _ _ _ _ h => h) rfl (by exact hcy') ?_
    apply Exists.intro
    refine ⟨fun wx hS => ?_, ?_⟩
    · have s0 := hS; go_simp; rfl
    simp only [Act.put, List.setIfInBounds_toArray, List.set_cons_succ, List.set_cons_zero, List.getElem_toArray, List.getElem_cons_succ, List.getElem_cons_zero]
    have hfz : (wc.drewN (nq + 1)).frozen? ⟨gb, from_ + bq, none⟩ = false := by
      rcases ROW7.out.2 with ⟨e1, -⟩ | ⟨g', cap', cur, e1, -, hh, -⟩
      · cases e1
      · cases e1
        exact blk_free hh
    refine wpAnyZ_one 17 (by kernel_rfl) rfl rfl (fun K hK => ?_)
    try simp only [List.getElem_toArray, List.getElem_cons_succ, List.getElem_cons_zero]
    go_simp
    refine hK _ _ (.inl rfl) ?_
    clear hK K
    refine wpAnyZ_done (by kernel_rfl) ?_ _
    have rowf := owns_set (j := from_ + bq) ROW7.out hpq (.int .u8 (y1 : Int))
    have e10 : ((frs ls).map u8v).set (from_ + bq) (.int .u8 (y1 : Int)) = ((frs ls).set (from_ + bq) (UInt8.ofNat y1)).map u8v := by
      rw [List.map_set]
      simp only [u8v]
      rw [ofNat8 hy18]
    rw [e10] at rowf
    have hgbw : w.heap.size ≤ gb := (owns_lt ROW7.out gb rfl).1
    have UF := hide ((U7.out.drewN (nq + 1)).setCell (p := ⟨gb, from_ + bq, none⟩) (.inr hgbw) (.int .u8 (y1 : Int)))
    have hall : all ((frs ls).set (from_ + bq) (UInt8.ofNat y1)) = (ls.take i, ends ls i, 12) := by
      refine all_flip FIT.out (by rw [HLEN.out]; exact hil) (j := bq) (by rw [HXG.out, HXL.out]; have := HBQ.out; omega) (by rw [HXG.out, HXL.out, HP1.out]; have := HFR.out; omega) (fun h => ?_)
      have h1 := congrArg UInt8.toNat h
      rw [ofNat8 hy18, HY0.out] at h1
      exact HNE.out h1
    have AF := hide hall
    have hfl2 : ((frs ls).set (from_ + bq) (UInt8.ofNat y1)).length = q := by rw [List.length_set, FL.out]
    have ROWF := hide rowf
    have htl2 : (ls.take i).length = i := by rw [List.length_take, HLEN.out]; omega
    have HTL2 := hide htl2
    obtain ⟨wf, hwf⟩ : ∃ wf, (wc.drewN (nq + 1)).setCell ⟨gb, from_ + bq, none⟩ (.int .u8 (y1 : Int)) = wf := ⟨_, rfl⟩
    rw [hwf] at UF ROWF ⊢
    clear e10 hall hfl2 rowf htl2 hwf hfz hcy hcy' esh exr w3 w4 w5 w6 w7 w8 eq8 er8 eq8' er8' ef eb ei
    go_wp2_with fail
    refine (Fr.all_any (bs := (frs ls).set (from_ + bq) (UInt8.ofNat y1)) _ (HST.out.upd UF.out (by simp)) (src_ownB ROWF.out) hbc1 (by unfold maxLen; omega) (by omega)).mono ?_
    rw [AF.out]
    rintro e w9 ⟨v9, vs9, rfl, ho9, hu9⟩
    have hr9 := ho9.reads
    simp only [] at hr9
    obtain ⟨ao9, cp9, rfl, hl9, hm9, -⟩ := hr9
    rw [HTL2.out] at hl9 ⊢
    have U9 := hide (UF.out.trans hu9)
    have HW := hide (wakes_any w9 (HST.out.upd U9.out (by simp)))
    clear hu9 ho9
    go_wp2_with fail
    refine HW.out.mono ?_
    rintro e w8 ⟨rfl, hu8⟩
    have U8 := hide (U9.out.trans hu8)
    clear hu8
    go_wp2_with fail
    go_ret
    exact ⟨rfl, U8.out⟩
end Go.Proofs.YtmgdhloehkdffaaDoor.FrL
