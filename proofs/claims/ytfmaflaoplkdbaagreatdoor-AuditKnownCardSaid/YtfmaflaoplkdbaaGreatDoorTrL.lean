/- translate.Log. -/
import Derived.Test.YtfmaflaoplkdbaaGreatDoorTrY
import Derived.Test.YtfmaflaoplkdbaaGreatDoorGenAll
import Derived.Carry
set_option linter.unusedSimpArgs false
set_option linter.unusedVariables false
set_option linter.unnecessarySimpa false
namespace Go.Proofs.YtfmaflaoplkdbaaGreatDoor.Tr
open Go.RowKit Go.Proofs.YtfmaflaoplkdbaaGreatDoor.Crc Go.Proofs.YtfmaflaoplkdbaaGreatDoor.Cm Go.Proofs.YtfmaflaoplkdbaaGreatDoor.Var

abbrev TSl : TypeId := 118
def slc (x : Sl) (vc va : Value) : List Value := [.int .u64 (x.slot : Int), vc, va]
/-- The map has the first of each slot. -/
def Seen (w : World) (M : Nat) (T : Nat → Prop) (L : List Sl) : Prop :=
  ∃ es clock, w.heap[M]? = some (.map es clock) ∧ MKeys (.num .u64) es.toList ∧ ∀ s : Nat, (findM L s = none ∧ mget es.toList (.int .u64 (s : Int)) = none) ∨
    ∃ x xc nc cc xa na ca, findM L s = some x ∧ mget es.toList (.int .u64 (s : Int)) = some (.agg #[.int .u64 (x.slot : Int), .slice xc nc cc, .slice xa na ca]) ∧ slK.holds w T x (slc x (.slice xc nc cc) (.slice xa na ca))
theorem zeroSl (w : World) : (zeroValue TSl).run Tryz.prog w = .ok (.agg #[.int .u64 0, .slice none 0 0, .slice none 0 0]) w := by kernel_rfl
section
variable {w w' : World} {M : Nat} {T U : Nat → Prop} {L : List Sl} {S : List Nat}
theorem Seen.upd (h : Seen w M T L) (hu : Upd S w w') (hM : M ∉ S) (hS : ∀ k ∈ S, ¬ T k) : Seen w' M T L := by
  obtain ⟨es, clock, h1, h2, h3⟩ := h
  refine ⟨es, clock, hu.get h1 hM, h2, fun s => ?_⟩
  rcases h3 s with h4 | ⟨x, xc, nc, cc, xa, na, ca, h4, h5, h6⟩
  · exact .inl h4
  · exact .inr ⟨x, xc, nc, cc, xa, na, ca, h4, h5, slK.upd h6 hu hS⟩
theorem Seen.mono (h : Seen w M T L) (hT : ∀ k, T k → U k) : Seen w M U L := by
  obtain ⟨es, clock, h1, h2, h3⟩ := h
  refine ⟨es, clock, h1, h2, fun s => ?_⟩
  rcases h3 s with h4 | ⟨x, xc, nc, cc, xa, na, ca, h4, h5, h6⟩
  · exact .inl h4
  · exact .inr ⟨x, xc, nc, cc, xa, na, ca, h4, h5, slK.mono h6 hT⟩
theorem Seen.look (h : Seen w M T L) (s : Nat) :
    (findM L s = none ∧ (Instr.lookup 115 (.map (some M)) (.int .u64 (s : Int)) true).run Tryz.prog w = .ok (.tuple #[.agg #[.int .u64 0, .slice none 0 0, .slice none 0 0], .bool false]) w) ∨
    ∃ x xc nc cc xa na ca, findM L s = some x ∧ (Instr.lookup 115 (.map (some M)) (.int .u64 (s : Int)) true).run Tryz.prog w = .ok (.tuple #[.agg #[.int .u64 (x.slot : Int), .slice xc nc cc, .slice xa na ca], .bool true]) w ∧ slK.holds w T x (slc x (.slice xc nc cc) (.slice xa na ca)) := by
  obtain ⟨es, clock, h1, h2, h3⟩ := h
  have hl := run_lookup_ok (P := Tryz.prog) (m := .num .u64) Tryz.underlying115 Tryz.underlying32 (zeroSl w) h1 h2 (k := .int .u64 (s : Int)) ⟨_, rfl⟩
  rcases h3 s with ⟨h4, h5⟩ | ⟨x, xc, nc, cc, xa, na, ca, h4, h5, h6⟩
  · rw [h5] at hl
    exact .inl ⟨h4, hl⟩
  · rw [h5] at hl
    exact .inr ⟨x, xc, nc, cc, xa, na, ca, h4, hl, h6⟩
theorem Seen.put {x : Sl} {xc xa : Option Addr} {nc cc na ca : Nat} (h : Seen w M T L) (hn : findM L x.slot = none) (hx : slK.holds w T x (slc x (.slice xc nc cc) (.slice xa na ca))) (hM : ¬ T M) :
    ∃ W, (Instr.mapUpdate 115 (.map (some M)) (.int .u64 (x.slot : Int)) (.agg #[.int .u64 (x.slot : Int), .slice xc nc cc, .slice xa na ca])).run Tryz.prog w = .ok () W ∧ Upd [M] w W ∧ W.heap.size = w.heap.size ∧ Seen W M T (L ++ [x]) := by
  obtain ⟨es, clock, h1, h2, h3⟩ := h
  obtain ⟨W, es', clock', hup, hu1, hz1, hm1, hk1, hg1⟩ := run_mapUpdate' (P := Tryz.prog) (m := .num .u64) Tryz.underlying115 Tryz.underlying32 h1 h2 (k := .int .u64 (x.slot : Int)) ⟨_, rfl⟩ (.agg #[.int .u64 (x.slot : Int), .slice xc nc cc, .slice xa na ca])
  have hh : ∀ y cs, slK.holds w T y cs → slK.holds W T y cs := fun y cs hy => slK.upd hy hu1 (by simpa using hM)
  refine ⟨W, hup, hu1, hz1, es', clock', hm1, hk1, fun s => ?_⟩
  rw [hg1 _ ⟨_, rfl⟩, findM_append]
  by_cases e : s = x.slot
  · subst e
    refine .inr ⟨x, xc, nc, cc, xa, na, ca, by rw [hn]; simp [findM], by simp [keyEq], hh _ _ hx⟩
  · have e3 : keyEq (.int .u64 (s : Int)) (.int .u64 (x.slot : Int)) = false := by simp [keyEq]; omega
    have e4 : findM [x] s = none := by simp [findM]; omega
    rw [e3, e4, Option.or_none]
    rcases h3 s with ⟨h4, h5⟩ | ⟨y, yc, mc, dc, ya, ma, da, h4, h5, h6⟩
    · exact .inl ⟨h4, by simpa using h5⟩
    · exact .inr ⟨y, yc, mc, dc, ya, ma, da, h4, by simpa using h5, hh _ _ h6⟩
end
theorem findM_one (x : Sl) (s : Nat) : findM [x] s = if x.slot = s then some x else none := by
  unfold findM
  by_cases h : x.slot = s <;> simp [h]
theorem Seen.skip {w : World} {M : Nat} {T : Nat → Prop} {L : List Sl} {x y : Sl} (h : Seen w M T L) (hf : findM L x.slot = some y) : Seen w M T (L ++ [x]) := by
  obtain ⟨es, clock, h1, h2, h3⟩ := h
  refine ⟨es, clock, h1, h2, fun s => ?_⟩
  rw [findM_append, findM_one]
  by_cases e : x.slot = s
  · subst e
    rcases h3 x.slot with ⟨h4, h5⟩ | ⟨z, xc, nc, cc, xa, na, ca, h4, h5, h6⟩
    · rw [hf] at h4; cases h4
    · exact .inr ⟨z, xc, nc, cc, xa, na, ca, by rw [h4]; rfl, h5, h6⟩
  · rw [if_neg e, Option.or_none]
    exact h3 s
/-- What a look-up has found. -/
def Next (w : World) (T : Nat → Prop) (L : List Sl) (s : Nat) (b : Bool) (vx : Nat) (vc va : Value) : Prop :=
  (b = false ∧ findM L s = none) ∨ (b = true ∧ ∃ x, findM L s = some x ∧ vx = x.slot ∧ slK.holds w T x (slc x vc va))
theorem Next.upd {w w' : World} {T : Nat → Prop} {L : List Sl} {S : List Nat} {s vx : Nat} {b : Bool} {vc va : Value} (h : Next w T L s b vx vc va) (hu : Upd S w w') (hS : ∀ k ∈ S, ¬ T k) : Next w' T L s b vx vc va := by
  rcases h with h | ⟨h1, x, h2, h3, h4⟩
  · exact .inl h
  · exact .inr ⟨h1, x, h2, h3, slK.upd h4 hu hS⟩
theorem Seen.next {w : World} {M : Nat} {T : Nat → Prop} {L : List Sl} (h : Seen w M T L) (s : Nat) :
    ∃ b vx xc nc cc xa na ca, (Instr.lookup 115 (.map (some M)) (.int .u64 (s : Int)) true).run Tryz.prog w = .ok (.tuple #[.agg #[.int .u64 ((vx : Nat) : Int), .slice xc nc cc, .slice xa na ca], .bool b]) w ∧ Next w T L s b vx (.slice xc nc cc) (.slice xa na ca) := by
  rcases h.look s with ⟨h1, h2⟩ | ⟨x, xc, nc, cc, xa, na, ca, h1, h2, h3⟩
  · exact ⟨false, 0, none, 0, 0, none, 0, 0, h2, .inl ⟨rfl, h1⟩⟩
  · exact ⟨true, x.slot, xc, nc, cc, xa, na, ca, h2, .inr ⟨rfl, x, h1, rfl, h3⟩⟩
theorem alloc_swap (w : World) (A B : Obj) : Upd [w.heap.size] (w.alloc A) (w.alloc B) := by
  refine ⟨rfl, rfl, rfl, by simp, fun k hk hS => ?_⟩
  have h1 : k < w.heap.size := by simp at hk hS; omega
  rw [Below.heap_alloc _ _ _ h1, Below.heap_alloc _ _ _ h1]
def lenOf : Value → Nat
  | .slice _ n _ => n
  | _ => 0
theorem row3 {w wr : World} {b off j : Nat} {s : Sl} {xc xa : Option Addr} {nc cc na ca : Nat} (hcell : ∀ i u, (slc s (.slice xc nc cc) (.slice xa na ca))[i]? = some u → w.cell? ⟨b, off + j * slK.z + i, none⟩ = some u) (hb : b < w.heap.size) (hu : wr.heap[b]? = w.heap[b]?) :
    wr.cell? ⟨b, off + j * 3, none⟩ = some (.int .u64 (s.slot : Int)) ∧ wr.cell? ⟨b, off + j * 3 + 1, none⟩ = some (.slice xc nc cc) ∧ wr.cell? ⟨b, off + j * 3 + 2, none⟩ = some (.slice xa na ca) := by
  have cx : ∀ i u, (slc s (.slice xc nc cc) (.slice xa na ca))[i]? = some u → wr.cell? ⟨b, off + j * 3 + i, none⟩ = some u := fun i u hi => by
    refine Eq.trans ?_ (hcell i u hi); show _ = w.cell? ⟨b, off + j * 3 + i, none⟩; simp only [World.cell?, hu]
  exact ⟨cx 0 _ rfl, cx 1 _ rfl, cx 2 _ rfl⟩
theorem allM_more {told : List Td} {k : Nat} {t : Td} (h : told[k]? = some t) : allM (told.take k) ++ partedM t.done t.ans = allM (told.take (k + 1)) := flat_more (fun t : Td => partedM t.done t.ans) h
set_option maxRecDepth 100000 in
set_option maxHeartbeats 4000000 in
theorem log_any {T : Nat → Prop} {v : Value} {told : List Td} (w : World) (hcnt : CntAt w) (h : tdK.row w T v told) (hb1 : ∀ t ∈ told, t.done.length ≤ 1000 ∧ t.ans.length ≤ 1000000 ∧ ∀ d ∈ t.done, d.2.length ≤ 1000000000000) (hb2 : (allM told).length ≤ 100000) :
    Calls Tryz.prog 14 #[v] w fun e w' => (∃ v' out, e = .returned v' ∧ LogIs (allM told) out ∧ slK.row w' (since w.heap.size w') v' out) ∧ Upd [] w w' := by
  obtain ⟨xt, ct, rfl, hct, hcm, hg⟩ := Row.get tdK.hz h
  have HG := hide hg; have HB := hide hb1; have HC := hide hcnt
  simp only [maxLen] at hcm
  clear h hg hb1 hcnt
  obtain ⟨i1, hi1, iz0, iz1, iz2⟩ := info_parts infoL
  obtain ⟨M, hM⟩ : ∃ M, w.heap.size = M := ⟨_, rfl⟩
  go_enter Tryz.func14, Tryz.ntmps14
  have hmm := @run_makeMap Tryz.prog
  go_wp2_with fail
  have HM := hide hM
  clear hM hmm
  go_loopw [16] (fun si wr => ∃ k : Nat, k ≤ told.length ∧ si = .int .i64 k ∧ Seen wr M (since (M + 1) wr) (allM (told.take k)) ∧ M < wr.heap.size ∧ Upd [] w wr) (fun si _ => told.length - (intOf si).toNat)
  case atStart =>
    exact ⟨0, by omega, rfl, ⟨#[], 0, by rw [← HM.out]; exact blk_new _ _, by intro e he; simp at he, fun s => .inl ⟨rfl, rfl⟩⟩, by simp; have := HM.out; omega, (Upd.refl _ _).alloc _⟩
  case round =>
    obtain ⟨k, hk, rfl, hs, hz, hu⟩ := hrel
    have HS := hide hs; have HU := hide hu
    clear hs hu
    by_cases hlt : k < told.length
    · have d5 : decide ((k : Int) < told.length) = true := by simp; omega
      have d5' : decide (k < told.length) = true := by simpa using hlt
      obtain ⟨t, hi⟩ : ∃ t, told[k]? = some t := ⟨_, List.getElem?_eq_getElem hlt⟩
      obtain ⟨hb1, hb3, hb4⟩ := HB.out t (List.mem_of_getElem? hi)
      have hmore := allM_more hi
      obtain ⟨b, off, cs, rfl, hb, hTb, ⟨r, e, n, va, vd, rfl, hva, hvd⟩, -, hcell⟩ := HG.out k t hi
      obtain ⟨xa, ca, rfl, -, -⟩ := Row.slice hva
      obtain ⟨xd, cd, rfl, -, -⟩ := Row.slice hvd
      have cx : ∀ i u, ([Value.int .i64 r, .int .i64 e, .int .i64 n, .slice xa t.ans.length ca, .slice xd t.done.length cd] : List Value)[i]? = some u → wr.cell? ⟨b, off + k * 5 + i, none⟩ = some u := fun i u hi => by
        refine Eq.trans ?_ (hcell i u hi); show _ = w.cell? ⟨b, off + k * 5 + i, none⟩; have := HU.out.block b hb (by simp); simp only [World.cell?, this]
      have y0 : wr.cell? ⟨b, off + k * 5, none⟩ = some (.int .i64 r) := cx 0 _ rfl
      have y1 : wr.cell? ⟨b, off + k * 5 + 1, none⟩ = some (.int .i64 e) := cx 1 _ rfl
      have y2 : wr.cell? ⟨b, off + k * 5 + 2, none⟩ = some (.int .i64 n) := cx 2 _ rfl
      have y3 : wr.cell? ⟨b, off + k * 5 + 3, none⟩ = some (.slice xa t.ans.length ca) := cx 3 _ rfl
      have y4 : wr.cell? ⟨b, off + k * 5 + 4, none⟩ = some (.slice xd t.done.length cd) := cx 4 _ rfl
      have HB4 := hide hb4; have HVA := hide hva; have HVD := hide hvd; have HMO := hide hmore
      clear hb4 hva hvd hmore hi cx hcell
      go_wp2_with fail
      have hA := (Upd.refl [] wr).alloc (.cells #[.int .i64 r, .int .i64 e, .int .i64 n, .slice xa t.ans.length ca, .slice xd t.done.length cd] 49)
      have hAs : (wr.alloc (.cells #[.int .i64 r, .int .i64 e, .int .i64 n, .slice xa t.ans.length ca, .slice xd t.done.length cd] 49)).heap.size = wr.heap.size + 1 := by simp
      generalize wr.alloc (.cells #[.int .i64 r, .int .i64 e, .int .i64 n, .slice xa t.ans.length ca, .slice xd t.done.length cd] 49) = w0 at *
      refine (parted_any (ds := t.done) (an := t.ans) w0 (HC.out.upd_nil (HU.out.trans hA)) (anK.row_upd_nil HVA.out (HU.out.trans hA)) (dnK.row_upd_nil HVD.out (HU.out.trans hA)) hb1 hb3 HB4.out).mono ?_
      obtain ⟨PL, hPL⟩ : ∃ PL, partedM t.done t.ans = PL := ⟨_, rfl⟩
      have hmo := HMO.out
      rw [hPL] at hmo ⊢
      rintro e1 w1 ⟨⟨v', rfl, hr1⟩, hu1⟩
      have hA1 := hA.trans hu1
      have hs1 := hA1.size
      have hS1 : Seen w1 M (since (M + 1) w1) (allM (told.take k) ++ PL.take 0) := by
        rw [List.take_zero, List.append_nil]
        exact (HS.out.upd hA1 (by simp) (by simp)).mono (fun g hg => ⟨hg.1, Nat.lt_of_lt_of_le hg.2 hs1⟩)
      have hz1 : M < w1.heap.size := by omega
      have U1 := hide (HU.out.trans hA1); have S1 := hide hS1; have MO := hide hmo
      obtain ⟨xp, cp, rfl, hpc, hpm, hpg⟩ := Row.get slK.hz hr1
      have HPG := hide hpg; have HZ01 : Hid (M < w0.heap.size) := hide (by omega)
      simp only [maxLen] at hpm
      clear hA hAs hu1 hA1 hS1 hmo hPL hr1 hpg HMO HS HU y0 y1 y2 y3 y4 HVA HVD HB4
      go_wp2_with fail
      go_loopw [23] (fun sj wr => ∃ j : Nat, j ≤ PL.length ∧ sj = .int .i64 j ∧ Seen wr M (since (M + 1) wr) (allM (told.take k) ++ PL.take j) ∧ M < wr.heap.size ∧ Upd [M] w1 wr) (fun sj _ => PL.length - (intOf sj).toNat)
      case atStart => exact ⟨0, by omega, rfl, S1.out, hz1, Upd.refl _ _⟩
      case round =>
        obtain ⟨j, hj, rfl, hs2, hz2, hu2⟩ := hrel
        have HU2 := hide hu2
        clear hu2
        by_cases hjl : j < PL.length
        · have d6 : decide ((j : Int) < PL.length) = true := by simp; omega
          have d6' : decide (j < PL.length) = true := by simpa using hjl
          obtain ⟨x, hxi⟩ : ∃ x, PL[j]? = some x := ⟨_, List.getElem?_eq_getElem hjl⟩
          have hxm : PL.take (j + 1) = PL.take j ++ [x] := by rw [List.take_succ_eq_append_getElem hjl, (List.getElem?_eq_some_iff.1 hxi).2]
          obtain ⟨bx, ox, cx, rfl, hbx, hTx, ⟨hxs, vc, va, rfl, hvc, hva⟩, -, hcx⟩ := HPG.out j x hxi
          obtain ⟨xc, cc, rfl, -, -⟩ := Row.slice hvc
          obtain ⟨xa, ca, rfl, -, -⟩ := Row.slice hva
          have hzz := HZ01.out
          obtain ⟨y0, y1, y2⟩ := row3 hcx hbx (HU2.out.block bx hbx (by simp; have := hTx.1; omega))
          have hxh : slK.holds wr (since (M + 1) wr) x (slc x (.slice xc x.cmds.length cc) (.slice xa x.ans.length ca)) := slK.mono (slK.upd ⟨hxs, _, _, rfl, hvc, hva⟩ HU2.out (by simp; intro hg; have := hg.1; omega)) (fun g hg => ⟨by have := hg.1; omega, Nat.lt_of_lt_of_le hg.2 HU2.out.size⟩)
          have hal := (Upd.refl [] wr).alloc (.cells #[.int .u64 (x.slot : Int), .slice xc x.cmds.length cc, .slice xa x.ans.length ca] TSl)
          have hsa := (hs2.upd hal (by simp) (by simp)).mono (U := since (M + 1) (wr.alloc (.cells #[.int .u64 (x.slot : Int), .slice xc x.cmds.length cc, .slice xa x.ans.length ca] TSl))) (fun g hg => ⟨hg.1, Nat.lt_of_lt_of_le hg.2 hal.size⟩)
          have hxa := slK.mono (slK.upd hxh hal (by simp)) (U := since (M + 1) (wr.alloc (.cells #[.int .u64 (x.slot : Int), .slice xc x.cmds.length cc, .slice xa x.ans.length ca] TSl))) (fun g hg => ⟨hg.1, Nat.lt_of_lt_of_le hg.2 hal.size⟩)
          have hnz : M < (wr.alloc (.cells #[.int .u64 (x.slot : Int), .slice xc x.cmds.length cc, .slice xa x.ans.length ca] TSl)).heap.size := by simp; omega
          have HXM := hide hxm
          rcases hsa.look x.slot with ⟨hn, hlk⟩ | ⟨y, yc, mc, dc, ya, ma, da, hf, hlk, -⟩
          · have hal2 := (Upd.refl [] (wr.alloc (.cells #[.int .u64 (x.slot : Int), .slice xc x.cmds.length cc, .slice xa x.ans.length ca] TSl))).alloc (.cells #[.int .u64 0, .slice none 0 0, .slice none 0 0] TSl)
            have hsb := (hsa.upd hal2 (by simp) (by simp)).mono (U := since (M + 1) ((wr.alloc (.cells #[.int .u64 (x.slot : Int), .slice xc x.cmds.length cc, .slice xa x.ans.length ca] TSl)).alloc (.cells #[.int .u64 0, .slice none 0 0, .slice none 0 0] TSl))) (fun g hg => ⟨hg.1, Nat.lt_of_lt_of_le hg.2 hal2.size⟩)
            have hxb := slK.mono (slK.upd hxa hal2 (by simp)) (U := since (M + 1) ((wr.alloc (.cells #[.int .u64 (x.slot : Int), .slice xc x.cmds.length cc, .slice xa x.ans.length ca] TSl)).alloc (.cells #[.int .u64 0, .slice none 0 0, .slice none 0 0] TSl))) (fun g hg => ⟨hg.1, Nat.lt_of_lt_of_le hg.2 hal2.size⟩)
            obtain ⟨W, hup, huW, hzW, hsW⟩ := hsb.put hn hxb (fun hg => by have := hg.1; omega)
            have hsW2 := hsW.mono (U := since (M + 1) W) (fun g hg => ⟨hg.1, by rw [hzW]; exact hg.2⟩)
            rw [List.append_assoc, ← HXM.out] at hsW2
            have hzW2 : M < W.heap.size := by rw [hzW]; simp; omega
            have SW := hide hsW2; have UW := hide ((HU2.out.trans ((hal.trans hal2).mono (by simp))).trans huW)
            clear hs2 hxm hxi hcx hvc hva hxh hal hsa hxa hal2 hsb hxb huW hzW hsW hsW2 hn hnz
            go_wp2_with fail
            go_roundw
            case rel => exact ⟨j + 1, by omega, by go_num, SW.out, hzW2, UW.out⟩
            case measure => simp [intOf]; omega
          · have hal2 := (Upd.refl [] (wr.alloc (.cells #[.int .u64 (x.slot : Int), .slice xc x.cmds.length cc, .slice xa x.ans.length ca] TSl))).alloc (.cells #[.int .u64 (y.slot : Int), .slice yc mc dc, .slice ya ma da] TSl)
            have hsb := ((hsa.skip hf).upd hal2 (by simp) (by simp)).mono (U := since (M + 1) ((wr.alloc (.cells #[.int .u64 (x.slot : Int), .slice xc x.cmds.length cc, .slice xa x.ans.length ca] TSl)).alloc (.cells #[.int .u64 (y.slot : Int), .slice yc mc dc, .slice ya ma da] TSl))) (fun g hg => ⟨hg.1, Nat.lt_of_lt_of_le hg.2 hal2.size⟩)
            rw [List.append_assoc, ← HXM.out] at hsb
            have hzW2 : M < ((wr.alloc (.cells #[.int .u64 (x.slot : Int), .slice xc x.cmds.length cc, .slice xa x.ans.length ca] TSl)).alloc (.cells #[.int .u64 (y.slot : Int), .slice yc mc dc, .slice ya ma da] TSl)).heap.size := by simp; omega
            have SW := hide hsb; have UW := hide (HU2.out.trans ((hal.trans hal2).mono (by simp))); have HZW := hide hzW2
            clear hs2 hxm hxi hcx hvc hva hxh hal hsa hxa hal2 hsb hf hnz hzW2
            go_wp2_with fail
            go_roundw
            case rel => exact ⟨j + 1, by omega, by go_num, SW.out, HZW.out, UW.out⟩
            case measure => simp [intOf]; omega
        · have hjn : j = PL.length := by omega
          have d6 : decide ((j : Int) < PL.length) = false := by simp; omega
          have d6' : decide (j < PL.length) = false := by simp; omega
          rw [hjn, List.take_length, MO.out] at hs2
          have SE := hide hs2; have UE := hide (U1.out.trans_new HU2.out (by simp; have := HM.out; omega))
          clear hjn hs2
          go_wp2_with fail
          go_roundw
          case rel => exact ⟨k + 1, by omega, by go_num, SE.out, hz2, UE.out⟩
          case measure => simp [intOf]; omega
    · have hkn : k = told.length := by omega
      have d5 : decide ((k : Int) < told.length) = false := by simp; omega
      have d5' : decide (k < told.length) = false := by simp; omega
      have hs2 := HS.out
      rw [hkn, List.take_length] at hs2
      obtain ⟨w2, rfl⟩ : ∃ w2, w2 = wr := ⟨_, rfl⟩
      obtain ⟨L, hL⟩ : ∃ L, allM told = L := ⟨_, rfl⟩
      rw [hL] at hs2 hb2
      have HL := hide hL
      obtain ⟨T2, hT2⟩ : ∃ T2, since (M + 1) w2 = T2 := ⟨_, rfl⟩
      rw [hT2] at hs2
      have hTlt : ∀ g, T2 g → M < g ∧ g < w2.heap.size := by subst hT2; exact fun g hg => ⟨by have := hg.1; omega, hg.2⟩
      obtain ⟨b1, v1, xc, nc, cc, xa, na, ca, lk, nx⟩ := hs2.next 1
      have e1 : ((1 : Nat) : Int) = 1 := rfl
      rw [e1] at lk
      have S2 := hide hs2; have NX := hide nx; have HT2 := hide hTlt
      clear hs2 hkn hL hT2 hTlt nx e1 HS
      go_wp2_with fail
      have hD := blk_new w2 (.cells #[.int .u64 (v1 : Int), .slice xc nc cc, .slice xa na ca] TSl)
      have hA := (Upd.refl [] w2).alloc (.cells #[.int .u64 (v1 : Int), .slice xc nc cc, .slice xa na ca] TSl)
      generalize w2.alloc (.cells #[.int .u64 (v1 : Int), .slice xc nc cc, .slice xa na ca] TSl) = wc at *
      go_loopw [10, 11, 12] (fun so sd sb wr => ∃ (out : List Sl) (D : Nat) (b : Bool) (vx : Nat) (yc : Option Addr) (mc dc : Nat) (ya : Option Addr) (ma da : Nat), sd = .pointer (some ⟨D, 0, none⟩) ∧ sb = .bool b ∧ wr.heap[D]? = some (.cells #[.int .u64 (vx : Int), .slice yc mc dc, .slice ya ma da] TSl (0, 0)) ∧ w2.heap.size ≤ D ∧
        Next wr T2 L (out.length + 1) b vx (.slice yc mc dc) (.slice ya ma da) ∧ LogTo L out ∧ Own wr w2.heap.size TSl 3 (slK.holds wr T2) so out ∧ (∀ g, so.ownBlock = some g → g ≠ D) ∧ Seen wr M T2 L ∧ Upd [] w2 wr) (fun so _ _ _ => L.length - lenOf so)
      case atStart => exact ⟨[], w2.heap.size, b1, v1, xc, nc, cc, xa, na, ca, rfl, rfl, hD, Nat.le_refl _, NX.out.upd hA (by simp), LogTo.nil _, Own.nil _ _ _ _ _, by simp [Value.ownBlock], S2.out.upd hA (by simp) (by simp), hA⟩
      case round =>
        obtain ⟨out, D, b, vx, yc, mc, dc, ya, ma, da, rfl, rfl, hDq, hDz, hnx, hlt2, hown, hnD, hsn, huq⟩ := hrel
        have DQ := hide hDq; have LT := hide hlt2; have SN := hide hsn; have UQ := hide huq; have OWN := hide hown
        have hDl := blk_lt hDq
        have hol := Own.lt hown
        have hzq := huq.size
        obtain ⟨ao, cap, rfl, hc1, hc2⟩ := Row.slice (Own.row hown)
        clear hDq hlt2 hsn huq hown hD hA NX S2
        rcases hnx with ⟨rfl, hno⟩ | ⟨rfl, x, hx, rfl, hhx⟩
        · have HNO := hide hno
          clear hno
          go_wp2_with fail
          go_ret
          refine ⟨⟨_, out, rfl, by rw [HL.out]; exact ⟨LT.out, HNO.out⟩, Row.mono (Own.row OWN.out) (fun g hg => ⟨by have := (hol g hg).1; have := HM.out; omega, (hol g hg).2⟩) (fun _ _ _ h => slK.mono h (fun g hg => ⟨by have := (HT2.out g hg).1; have := HM.out; omega, by have := (HT2.out g hg).2; omega⟩))⟩, HU.out.trans UQ.out⟩
        · have hto := LT.out.more hx
          have hle := hto.le
          have hxs := findM_slot hx
          have hw : IntKind.u64.wrap ((x.slot : Int) + 1) = (x.slot : Int) + 1 := IntWalk.u64_in _ (by simp at hle; omega)
          have TO := hide hto; have XS := hide hxs; have HHX := hide hhx; have HOL := hide hol
          have hol3 : out.length < L.length := by simp at hle; omega
          clear hto hle hxs hx hhx hol
          have c0 : wr.cell? ⟨D, 0, none⟩ = some (.int .u64 (x.slot : Int)) := blk_cell DQ.out rfl
          have c1 : wr.cell? ⟨D, 1, none⟩ = some (.slice yc mc dc) := blk_cell DQ.out rfl
          have c2 : wr.cell? ⟨D, 2, none⟩ = some (.slice ya ma da) := blk_cell DQ.out rfl
          obtain ⟨css, hcss, hcz, hrow⟩ := OWN.out
          have hal := (Upd.refl [] wr).alloc (.cells #[.int .u64 (x.slot : Int), .slice yc mc dc, .slice ya ma da] TSl)
          have HROW := hide (owns_upd hrow hal (by simp)); have HCSS := hide hcss; have HCZ := hide hcz
          clear hcss hcz hrow hal
          go_wp2_with (at_builtin; go_must (refine wpList_append_src _ rfl _ _ 56 rfl w2.heap.size TSl i1 (.agg #[.int .u64 0, .slice none 0 0, .slice none 0 0]) 3 56 Tryz.underlying56 hi1 iz0 iz1 iz2 rfl (by decide) (.slice ao out.length cap) out.length css.flatten rfl HROW.out (some ⟨wr.heap.size, 0, none⟩) 1 1 [.int .u64 (x.slot : Int), .slice yc mc dc, .slice ya ma da] rfl (slc_src (blk_new _ _) rfl rfl rfl) (by unfold maxLen; omega) (by omega) (by simp; omega) ?_))
          intro ao6 cap6 w6 hown6 hU6 hn6
          have hU6' := grown_upd hU6
          have hnT : ∀ g ∈ (Value.slice ao out.length cap).ownBlock.toList, ¬ T2 g := fun g hm ht => by have := (HOL.out g (by simpa using hm)).1; have := (HT2.out g ht).2; omega
          have hnM : M ∉ (Value.slice ao out.length cap).ownBlock.toList := fun hm => by have := (HOL.out M (by simpa using hm)).1; omega
          have u6 : Upd [] w2 w6 := UQ.out.trans_new hU6' (fun g hm => .inr (by have := HOL.out _ (by simpa using hm); omega))
          have hown7 : Own w6 w2.heap.size TSl 3 (slK.holds w6 T2) (.slice ao6 (out.length + 1) cap6) (out ++ [x]) :=
            Own.more (HCSS.out.mono fun _ _ _ h => slK.upd h hU6' hnT) HCZ.out (slK.upd HHX.out hU6' hnT) rfl (by simp [slc, Value.oneCell']) rfl hown6
          have hD6 := hU6'.get DQ.out (fun hm => hnD _ (by simpa using hm) rfl)
          have c3 : w6.cell? ⟨D, 0, none⟩ = some (.int .u64 (x.slot : Int)) := blk_cell hD6 rfl
          have c4 : w6.cell? ⟨D, 1, none⟩ = some (.slice yc mc dc) := blk_cell hD6 rfl
          have c5 : w6.cell? ⟨D, 2, none⟩ = some (.slice ya ma da) := blk_cell hD6 rfl
          have hol7 := Own.lt hown7
          have hal7 := (Upd.refl [] w6).alloc (.cells #[.int .u64 (x.slot : Int), .slice yc mc dc, .slice ya ma da] TSl)
          have s6 := SN.out.upd hU6' hnM hnT
          obtain ⟨b2, v2, zc, nz, kz, za, na2, ka, lk2, nx2⟩ := (s6.upd hal7 (by simp) (by simp)).next (x.slot + 1)
          have e2 : ((x.slot + 1 : Nat) : Int) = (x.slot : Int) + 1 := by omega
          rw [e2] at lk2
          have S6 := hide s6; have U6 := hide u6; have O7 := hide hown7; have L7 := hide hol7
          have hsz6 : w2.heap.size ≤ w6.heap.size := by have := hU6'.size; omega
          have nx3 := nx2.upd (alloc_swap w6 _ (.cells #[.int .u64 (v2 : Int), .slice zc nz kz, .slice za na2 ka] TSl)) (by simp; intro hg; have := (HT2.out _ hg).2; omega)
          have hal8 := (Upd.refl [] w6).alloc (.cells #[.int .u64 (v2 : Int), .slice zc nz kz, .slice za na2 ka] TSl)
          have hD8 := blk_new w6 (.cells #[.int .u64 (v2 : Int), .slice zc nz kz, .slice za na2 ka] TSl)
          have NX3 := hide nx3; have A8 := hide hal8; have D8 := hide hD8
          clear nx3 hal8 hD8
          clear hown6 hU6 hU6' hn6 hnT hnM u6 hown7 hD6 hol7 hal7 s6 nx2 e2
          go_wp2_with fail
          go_roundw
          case rel =>
            have hxl := XS.out
            refine ⟨out ++ [x], w6.heap.size, b2, v2, zc, nz, kz, za, na2, ka, rfl, rfl, D8.out, hsz6, ?_, TO.out, Own.upd O7.out A8.out (by simp) (fun _ _ _ h => slK.upd h A8.out (by simp)), fun g hg => ?_, S6.out.upd A8.out (by simp) (by simp), U6.out.trans A8.out⟩
            · have := NX3.out
              rw [show x.slot + 1 = (out ++ [x]).length + 1 by simp; omega] at this
              exact this
            · have := (L7.out g hg).2; omega
          case measure => simp [lenOf]; omega
end Go.Proofs.YtfmaflaoplkdbaaGreatDoor.Tr
