/- R13a, R13b in one text. -/
import Derived.Test.YthpnnffogbjhpaaGreatDoorR12
import Derived.Test.YthpnnffogbjhpaaGreatDoorWvRows
import Derived.Test.YthpnnffogbjhpaaGreatDoorKvPure
import Derived.Test.YthpnnffogbjhpaaGreatDoorWvYY
set_option linter.unusedSimpArgs false
set_option linter.unusedVariables false
set_option linter.unnecessarySimpa false
namespace Go.Proofs.YthpnnffogbjhpaaGreatDoor.Kv
set_option linter.unusedSimpArgs false
set_option linter.unusedVariables false
set_option linter.unnecessarySimpa false
open Go.RowKit Go.Lib Go.Proofs.YthpnnffogbjhpaaGreatDoor.Crc Go.Proofs.YthpnnffogbjhpaaGreatDoor.Cm

theorem kfP_zero {ps : List Int} {a d n : Nat} (hn : 0 < n) (h : ps.getD (7 * a + d) 0 = 0) : kfP ps a d n = 0 := by
  unfold kfP
  rw [h]
  simp
theorem kfP_pos {ps : List Int} {a d n : Nat} {x : Int} (hn : 0 < n) (hx : ps.getD (7 * a + d) 0 = x) (h : 0 ≤ Int.tmod x n) : ((kfP ps a d n : Nat) : Int) = Int.tmod x n := by
  have h1 : (0 : Int) < n := by exact_mod_cast hn
  have h2 := Int.tmod_lt_of_pos x h1
  unfold kfP
  rw [hx]
  generalize Int.tmod x n = r at *
  have h3 : Int.tmod (r + n) n = r := by
    rw [Int.tmod_eq_emod_of_nonneg (by omega), Int.add_emod_right, Int.emod_eq_of_lt h h2]
  rw [h3]
  omega
theorem kfP_neg {ps : List Int} {a d n : Nat} {x : Int} (hn : 0 < n) (hx : ps.getD (7 * a + d) 0 = x) (h : Int.tmod x n < 0) : ((kfP ps a d n : Nat) : Int) = Int.tmod x n + n := by
  have h1 : (0 : Int) < n := by exact_mod_cast hn
  have h2 := Int.lt_tmod_of_pos x h1
  unfold kfP
  rw [hx]
  generalize Int.tmod x n = r at *
  have h3 : Int.tmod (r + n) n = r + n := by
    rw [Int.tmod_eq_emod_of_nonneg (by omega), Int.emod_eq_of_lt (by omega) (by omega)]
  rw [h3]
  omega
set_option maxHeartbeats 2000000 in
theorem rpick_any {po : Option Addr} {pn pc : Nat} {ps : List Int} (w : World) (hs : SrcAt w po pn pc (ps.map pV) 1) (hp : pn ≤ 200) {a d n : Nat} (ha : a ≤ 1000) (hd : d ≤ 1000) (hn : 0 < n) (hn2 : n ≤ 1000) :
    Calls Tryz.prog 58 #[.slice po pn pc, .int .i64 (a : Int), .int .i64 (d : Int), .int .i64 (n : Int)] w fun e w' => e = .returned (.int .i64 ((kfP ps a d n : Nat) : Int)) ∧ w = w' := by
  have hlen : ps.length = pn := by have := hs.len; simpa using this
  obtain ⟨q, hq⟩ : ∃ q, 7 * a + d = q := ⟨_, rfl⟩
  have e1 : 7 * (a : Int) + (d : Int) = (q : Int) := by omega
  have HS := hide hs; have HQ := hide hq
  clear hs hq
  by_cases hb : q < pn
  · have h3 : decide ((q : Int) ≥ (pn : Int)) = false := by simp; omega
    have h4 : decide ((pn : Int) ≤ (q : Int)) = false := by simp; omega
    have h4' : decide (pn ≤ q) = false := by simp; omega
    obtain ⟨x, hx⟩ : ∃ x, ps[q]? = some x := ⟨_, List.getElem?_eq_getElem (by omega)⟩
    have hg : ps.getD (7 * a + d) 0 = x := by rw [HQ.out]; simp [List.getD, hx]
    obtain ⟨b, rfl, hc⟩ : ∃ b, po = some b ∧ w.cell? (b.add q) = some (.int .i64 x) := by
      cases po with
      | none => have := (HS.out.nil rfl).1; omega
      | some b => exact ⟨b, rfl, HS.out.cells b rfl q _ (by rw [List.getElem?_map, hx]; rfl)⟩
    have z1 : ((n : Int) == 0) = false := by rw [beq_eq_false_iff_ne]; omega
    have hn0 : (0 : Int) < n := by exact_mod_cast hn
    have hr1 := Int.lt_tmod_of_pos x hn0
    have hr2 := Int.tmod_lt_of_pos x hn0
    by_cases hr : Int.tmod x n < 0
    · have hk := kfP_neg hn hg hr
      obtain ⟨r, hrr⟩ : ∃ r, Int.tmod x n = r := ⟨_, rfl⟩
      rw [hrr] at hk hr hr1 hr2
      have HK := hide hk
      have z2 : decide (r < 0) = true := by simpa using hr
      have z3 : IntKind.i64.wrap r = r := IntWalk.i64_in _ (by omega)
      have z4 : IntKind.i64.wrap (r + (n : Int)) = r + n := IntWalk.i64_in _ (by omega)
      clear hg hx hlen hk
      go_enter Tryz.func58, Tryz.ntmps58
      go_wp2_with fail
      go_ret
      exact ⟨by rw [HK.out]; rfl, rfl⟩
    · have hk := kfP_pos hn hg (by omega)
      obtain ⟨r, hrr⟩ : ∃ r, Int.tmod x n = r := ⟨_, rfl⟩
      rw [hrr] at hk hr hr1 hr2
      have HK := hide hk
      have z2 : decide (r < 0) = false := by simpa using hr
      have z3 : IntKind.i64.wrap r = r := IntWalk.i64_in _ (by omega)
      clear hg hx hlen hk
      go_enter Tryz.func58, Tryz.ntmps58
      go_wp2_with fail
      go_ret
      exact ⟨by rw [HK.out]; rfl, rfl⟩
  · have h3 : decide ((q : Int) ≥ (pn : Int)) = true := by simp; omega
    have h4 : decide ((pn : Int) ≤ (q : Int)) = true := by simp; omega
    have h4' : decide (pn ≤ q) = true := by simp; omega
    have hg : ps.getD (7 * a + d) 0 = 0 := by rw [HQ.out]; simp [List.getD, List.getElem?_eq_none (by omega : ps.length ≤ q)]
    rw [kfP_zero hn hg]
    clear hg hlen
    go_enter Tryz.func58, Tryz.ntmps58
    go_wp2_with fail
    go_ret
    exact ⟨rfl, rfl⟩
end Go.Proofs.YthpnnffogbjhpaaGreatDoor.Kv
namespace Go.Proofs.YthpnnffogbjhpaaGreatDoor.Kv
set_option linter.unusedSimpArgs false
set_option linter.unusedVariables false
set_option linter.unnecessarySimpa false
open Go.RowKit Go.Lib Go.Proofs.YthpnnffogbjhpaaGreatDoor.Crc Go.Proofs.YthpnnffogbjhpaaGreatDoor.Cm

theorem IntsAt.blk_lt {w : World} {base n cap : Nat} {ao : Option Addr} {l : List Nat} (h : IntsAt w base ao n cap l) : ∀ a, ao = some a → n ≠ 0 → a.block < w.heap.size := fun a e hn => by
  have hl := h.len
  obtain ⟨x, hx⟩ : ∃ x, l[0]? = some x := ⟨_, List.getElem?_eq_getElem (by omega)⟩
  obtain ⟨b, e2, hc⟩ := h.get hx
  rw [e] at e2
  cases e2
  have := World.block_lt_of_cell? w _ hc
  rwa [add_block] at this
theorem IntsAt.low {w : World} {base base' n cap : Nat} {ao : Option Addr} {l : List Nat} (h : IntsAt w base ao n cap l) (hb : base' ≤ base) : IntsAt w base' ao n cap l := ⟨h.src, h.le, h.mx, fun a e => by have := h.lo a e; omega⟩
def lenOf : Value → Nat
  | .slice _ n _ => n
  | _ => 0
def waveOf (ws : List Nat) (n i : Nat) : List Nat := (List.range n).filter fun j => decide (ws.getD j 0 = i)
theorem waveOf_next (ws : List Nat) (n i : Nat) : waveOf ws (n + 1) i = waveOf ws n i ++ (if ws.getD n 0 = i then [n] else []) := by
  unfold waveOf
  rw [List.range_succ, List.filter_append]
  congr 1
  by_cases h : ws.getD n 0 = i
  · simp only [List.filter_cons, List.filter_nil, h, decide_true, if_true]
  · simp only [List.filter_cons, List.filter_nil, h, decide_false, if_false, Bool.false_eq_true]
theorem waveOf_len (ws : List Nat) (n i : Nat) : (waveOf ws n i).length ≤ n := by
  unfold waveOf
  have := List.length_filter_le (fun j => decide (ws.getD j 0 = i)) (List.range n)
  simpa using this
theorem waveOf_lt {ws : List Nat} {n i x : Nat} (h : x ∈ waveOf ws n i) : x < n := by
  unfold waveOf at h
  have := (List.mem_filter.1 h).1
  simpa using this
theorem groups_at {ws : List Nat} {top i : Nat} (h : i < top) : (groupsM ws top)[i]? = some (waveOf ws ws.length i) := by
  unfold groupsM waveOf
  rw [List.getElem?_map, List.getElem?_range h]
  rfl
set_option maxRecDepth 100000 in
set_option maxHeartbeats 8000000 in
theorem rorder_any {T : Nat → Prop} {v : Value} {l : List Cm} {ps : List Int} {po : Option Addr} {pn pc : Nat} (w : World) (h : cmK.row w T v l) (hs : Small l) (hps : SrcAt w po pn pc (ps.map pV) 1) (hpn : pn ≤ 200) (htop : topM (wavesM l) ≤ 100) :
    Calls Tryz.prog 28 #[v, .slice po pn pc] w fun e w' => (∃ ao cap, e = .returned (.slice ao l.length cap) ∧ w'.ownsRow w.heap.size TInt 1 (.slice ao l.length cap) l.length (((orderM l ps).map (·.1)).map nV)) ∧ Upd [] w w' := by
  obtain ⟨i1, hi1, iz0, iz1, iz2⟩ := partsI infoI
  obtain ⟨xo, cp, rfl, h1, h2, -⟩ := cm_get h
  have CR := hide h; have HPS := hide hps; have HS := hide hs
  have hl100 := hs.1
  have hal : ((orderM l ps).map (·.1)).length = l.length := by rw [List.length_map, orderM_len]
  have hall : (orderG (kfP ps) 0 ((groupsM (wavesM l) (topM (wavesM l))).drop 0)).map (·.1) = (orderM l ps).map (·.1) := rfl
  have hgs : ∀ i, i < topM (wavesM l) → (groupsM (wavesM l) (topM (wavesM l)))[i]? = some (waveOf (wavesM l) l.length i) := fun i hi => by
    rw [groups_at hi, show (wavesM l).length = l.length from waves_len l ft0]
  have hgl : (groupsM (wavesM l) (topM (wavesM l))).length = topM (wavesM l) := by simp [groupsM]
  have hwl : (wavesM l).length = l.length := waves_len l ft0
  have hwlt : ∀ x ∈ wavesM l, x < 100 := fun x hx => by have := top_gt x hx; omega
  have RW := hide (fun (w : World) (h : cmK.row w T (.slice xo l.length cp) l) => rwaves_any w h HS.out)
  generalize groupsM (wavesM l) (topM (wavesM l)) = gs at *
  generalize topM (wavesM l) = top at *
  generalize (orderM l ps).map (·.1) = all at *
  generalize wavesM l = ws at *
  simp only [maxLen] at h2
  have HGS := hide hgs; have HGL := hide hgl; have HALL := hide hall; have HWL := hide hwl; have HWT := hide hwlt
  clear h hps hs hgs hgl hall hwl hwlt
  go_enter Tryz.func28, Tryz.ntmps28
  go_wp2_with fail
  refine (RW.out w CR.out).mono ?_
  rintro e w1 ⟨⟨ao1, cap1, rfl, ho1⟩, hu1⟩
  have WS := hide (IntsAt.own ho1); have U1 := hide hu1
  have hz1 := hu1.size
  obtain ⟨N1, hN1⟩ : ∃ N, w1.heap.size = N := ⟨_, rfl⟩
  have HN1 := hide hN1
  clear ho1 hu1 RW hN1
  go_wp2_with fail
  go_loopw [6, 7] (fun so sw wr => ∃ (i : Nat) (pre : List Nat) (ao : Option Addr) (cap : Nat), so = .slice ao pre.length cap ∧ sw = .int .i64 i ∧ i ≤ top ∧ pre ++ (orderG (kfP ps) i (gs.drop i)).map (·.1) = all ∧ wr.ownsRow N1 TInt 1 (.slice ao pre.length cap) pre.length (pre.map nV) ∧ Upd [] w1 wr) (fun _ sw _ => top - (RowKit.intOf sw).toNat)
  case atStart => exact ⟨0, [], none, 0, rfl, rfl, by omega, HALL.out, World.ownsRow_nil _ _ _ _, Upd.refl _ _⟩
  case round =>
    obtain ⟨i, pre, ao, cap, rfl, rfl, hi, hpre, hown, hu⟩ := hrel
    have hpl : pre.length ≤ l.length := by rw [← hal, ← hpre, List.length_append]; omega
    have HPRE := hide hpre; have OW := hide hown; have HU := hide hu
    have hzr := hu.size; have hn1 := HN1.out
    clear hpre hown hu
    by_cases hlt : pre.length < l.length
    · have d5 : decide ((pre.length : Int) < l.length) = true := by simp; omega
      have d5' : decide (pre.length < l.length) = true := by simpa using hlt
      have hit : i < top := by
        rcases Nat.lt_or_ge i top with h | h
        · exact h
        · have hd : gs.drop i = [] := List.drop_eq_nil_of_le (by rw [HGL.out]; exact h)
          have := HPRE.out
          rw [hd] at this
          simp only [orderG, List.map_nil, List.append_nil] at this
          rw [this, hal] at hlt
          omega
      have hg := HGS.out i hit
      have hgn := waveOf_len ws l.length i
      have hcons := orderG_cons (kf := kfP ps) hg
      have hpre2 : pre ++ (drain (kfP ps i) (waveOf ws l.length i).length 0 (waveOf ws l.length i) ++ (orderG (kfP ps) (i + 1) (gs.drop (i + 1))).map (·.1)) = all := by
        rw [← HPRE.out, hcons, List.map_append, List.map_map]
        congr 2
        simp [Function.comp_def]
      obtain ⟨rest, hrest⟩ : ∃ rest, (orderG (kfP ps) (i + 1) (gs.drop (i + 1))).map (·.1) = rest := ⟨_, rfl⟩
      rw [hrest] at hpre2
      have HP2 := hide hpre2; have HREST := hide hrest
      obtain ⟨N2, hN2⟩ : ∃ N, wr.heap.size = N := ⟨_, rfl⟩
      have HN2 := hide hN2
      clear hg hcons hpre2 hrest hlt hN2
      go_wp2_with fail
      obtain ⟨wo, hwo⟩ : ∃ x, x = wr := ⟨_, rfl⟩
      subst hwo
      go_loopw [8, 9] (fun sl sj wr => ∃ (j : Nat) (lo : Option Addr) (lcap : Nat), j ≤ l.length ∧ sl = .slice lo (waveOf ws j i).length lcap ∧ sj = .int .i64 j ∧ wr.ownsRow N2 TInt 1 (.slice lo (waveOf ws j i).length lcap) (waveOf ws j i).length ((waveOf ws j i).map nV) ∧ Upd [] wo wr) (fun _ sj _ => l.length - (RowKit.intOf sj).toNat)
      case atStart => exact ⟨0, none, 0, by omega, rfl, rfl, World.ownsRow_nil _ _ _ _, Upd.refl _ _⟩
      case round =>
        obtain ⟨j, lo, lcap, hj, rfl, rfl, hol, hu2⟩ := hrel
        have hwn := waveOf_next ws j i
        have hll := waveOf_len ws j i
        obtain ⟨g, hlf⟩ : ∃ x, waveOf ws j i = x := ⟨_, rfl⟩
        rw [hlf] at hol hwn hll ⊢
        have OL := hide hol; have HU2 := hide hu2; have HWN := hide hwn; have HLF := hide hlf
        have hz2 := hu2.size; have hn2 := HN2.out
        clear hol hu2 hwn hlf
        by_cases hlj : j < l.length
        · have d6 : decide ((j : Int) < l.length) = true := by simp; omega
          have d6' : decide (j < l.length) = true := by simpa using hlj
          obtain ⟨x, hx⟩ : ∃ x, ws[j]? = some x := ⟨_, List.getElem?_eq_getElem (by rw [HWL.out]; exact hlj)⟩
          have hgd : ws.getD j 0 = x := by simp [List.getD, hx]
          obtain ⟨aw, rfl, hcx⟩ := (WS.out.upd (HU.out.trans HU2.out) (by simp)).get hx
          have hxl := HWT.out x (List.mem_of_getElem? hx)
          have HGD := hide hgd
          clear hx hgd
          by_cases hxi : x = i
          · have d7 : ((x : Int) == (i : Int)) = true := by simp; omega
            have hw2 := HWN.out
            rw [HGD.out, if_pos hxi] at hw2
            have HW2 := hide hw2
            obtain ⟨cur, hcur⟩ : ∃ cur, g.map nV = cur := ⟨_, rfl⟩
            have OL2 := OL.out
            rw [hcur] at OL2
            have OL3 := hide OL2; have HCU := hide hcur
            clear hw2 hxi hcur OL2
            go_wp2_with (at_builtin; go_must (refine wpList_append_src _ rfl _ _ 59 rfl N2 3 i1 (.int .i64 0) 1 8 Tryz.underlying59 hi1 iz0 iz1 iz2 rfl (by decide) (.slice lo g.length lcap) g.length cur rfl (by exact owns_upd OL3.out ((Upd.refl [] wr).alloc _) (by simp)) (some ⟨wr.heap.size, 0, none⟩) 1 1 [nV j] rfl (src_one (cell_new1 rfl) rfl) (by unfold maxLen; omega) (by omega) (by simp; omega) ?_))
            intro ao7 cap7 w7 hown7 hU7 hn7
            have hU7' := grown_upd hU7
            have U7 := hide (HU2.out.trans_new hU7' (fun q hq => .inr (by have := (owns_lt OL3.out q (by simpa using hq)).1; omega)))
            have OW7 := hide hown7
            clear hown7 hU7 hU7' hn7 hcx
            go_wp2_with fail
            go_roundw
            case rel =>
              have hll2 : (waveOf ws (j + 1) i).length = g.length + 1 := by rw [HW2.out]; simp
              exact ⟨j + 1, ao7, cap7, by omega, by rw [hll2], by go_num, by rw [hll2, HW2.out, List.map_append, HCU.out]; exact OW7.out, U7.out⟩
            case measure => simp [RowKit.intOf]; omega
          · have d7 : ((x : Int) == (i : Int)) = false := by simp; omega
            have hw2 := HWN.out
            rw [HGD.out, if_neg hxi, List.append_nil] at hw2
            have HW2 := hide hw2
            clear hw2 hxi
            go_wp2_with fail
            go_roundw
            case rel => exact ⟨j + 1, lo, lcap, by omega, by rw [HW2.out], by go_num, by rw [HW2.out]; exact OL.out, HU2.out⟩
            case measure => simp [RowKit.intOf]; omega
        · have d6 : decide ((j : Int) < l.length) = false := by simp; omega
          have d6' : decide (j < l.length) = false := by simpa using hlj
          have hje : j = l.length := by omega
          have hlf := HLF.out
          rw [hje] at hlf
          have HLF2 := hide hlf
          clear hlj hlf hje
          have hol := OL.out; have hu2 := HU2.out
          have hglt : ∀ x ∈ g, x < l.length := fun x hx => waveOf_lt (by rw [HLF2.out]; exact hx)
          have hp2 := HP2.out
          have hgn2 := hgn
          rw [HLF2.out] at hp2 hgn2
          have HP3 := hide hp2; have HGT := hide hglt
          have hinl := IntsAt.own hol
          have hdis : ∀ a, lo = some a → g.length ≠ 0 → ∀ b, (Value.slice ao pre.length cap).ownBlock = some b → a.block ≠ b := fun a e _ b hb => by
            have h5 := hinl.lo a e
            have h6 := (owns_lt OW.out b hb).2
            have := HN2.out
            omega
          have IN := hide (hinl.low (Nat.zero_le _)); have UC := hide (HU.out.trans hu2); have OWc := hide (owns_upd OW.out hu2 (by simp)); have DIS := hide hdis
          clear hol hu2 hinl hdis hp2 HP2 hglt
          go_wp2_with fail
          obtain ⟨wo2, hwo2⟩ : ∃ x, x = wr := ⟨_, rfl⟩
          subst hwo2
          go_loopw [6, 8, 10] (fun so sl sd wr => ∃ (left : List Nat) (lo : Option Addr) (lcap done : Nat) (pre2 : List Nat) (ao : Option Addr) (cap : Nat), so = .slice ao pre2.length cap ∧ sl = .slice lo left.length lcap ∧ sd = .int .i64 done ∧ done + left.length = g.length ∧ IntsAt wr 0 lo left.length lcap left ∧
            pre2 ++ (drain (kfP ps i) left.length done left ++ rest) = all ∧ wr.ownsRow N1 TInt 1 (.slice ao pre2.length cap) pre2.length (pre2.map nV) ∧ Upd [] w1 wr ∧ (∀ a, lo = some a → left.length ≠ 0 → ∀ b, (Value.slice ao pre2.length cap).ownBlock = some b → a.block ≠ b) ∧ ∀ x ∈ left, x < l.length) (fun _ sl _ _ => lenOf sl)
          case atStart => exact ⟨g, lo, lcap, 0, pre, ao, cap, rfl, rfl, rfl, by omega, IN.out, HP3.out, OWc.out, UC.out, DIS.out, HGT.out⟩
          case round =>
            obtain ⟨left, lo2, lcap2, done, pre2, ao2, cap2, rfl, rfl, rfl, hdn, hin2, hpre2, hown2, hu3, hdis2, hlt2⟩ := hrel
            have hpl2 : pre2.length ≤ l.length := by rw [← hal, ← hpre2, List.length_append]; omega
            have IN2 := hide hin2; have HPR := hide hpre2; have OW2 := hide hown2; have HU3 := hide hu3; have DI2 := hide hdis2; have HL2 := hide hlt2
            have hle := hin2.le; have hmx := hin2.mx; have hz3 := hu3.size
            simp only [maxLen] at hmx
            clear hin2 hpre2 hown2 hu3 hdis2 hlt2 IN UC OWc DIS HP3 HGT
            by_cases h0 : 0 < left.length
            · have d8 : decide ((left.length : Int) > 0) = true := by simp; omega
              have d9 : decide (0 < (left.length : Int)) = true := by simp; omega
              go_wp2_with fail
              refine (rpick_any wr (srcS_upd HPS.out (U1.out.trans HU3.out) (by simp)) hpn (a := i) (d := done) (n := left.length) (by omega) (by omega) h0 (by omega)).mono ?_
              rintro e w4 ⟨rfl, rfl⟩
              have hk5 := kfP_lt ps i done left.length h0
              obtain ⟨k, hk⟩ : ∃ k, kfP ps i done left.length = k := ⟨_, rfl⟩
              rw [hk] at hk5 ⊢
              obtain ⟨y, hy⟩ : ∃ y, left[k]? = some y := ⟨_, List.getElem?_eq_getElem hk5⟩
              have hgD : left.getD k 0 = y := by simp [List.getD, hy]
              have hdr : drain (kfP ps i) left.length done left = y :: drain (kfP ps i) (left.length - 1) (done + 1) (left.eraseIdx k) := by
                obtain ⟨m, hm⟩ : ∃ m, left.length = m + 1 := ⟨left.length - 1, by omega⟩
                rw [hm] at hk ⊢
                simp only [drain, Nat.add_sub_cancel]
                rw [hk, hgD]
              obtain ⟨a, rfl, hya⟩ := IN2.out.get hy
              have hpn2 : pre2 ++ [y] ++ (drain (kfP ps i) (left.length - 1) (done + 1) (left.eraseIdx k) ++ rest) = all := by
                rw [← HPR.out, hdr]
                simp
              have hyl := HL2.out y (List.mem_of_getElem? hy)
              have hle4 : (left.eraseIdx k).length = left.length - 1 := by rw [List.length_eraseIdx, if_pos hk5]
              have her : left.eraseIdx k = left.take k ++ left.drop (k + 1) := List.eraseIdx_eq_take_drop_succ left k
              have HPN := hide hpn2; have HLE4 := hide hle4; have HER := hide her
              obtain ⟨cur, hcur⟩ : ∃ cur, pre2.map nV = cur := ⟨_, rfl⟩
              have OW3 := OW2.out
              rw [hcur] at OW3
              have OW4 := hide OW3; have HCU := hide hcur
              clear hk hy hgD hdr hpn2 hle4 her hcur OW3 OW2 HPR
              go_wp2_with (at_builtin; go_must (refine wpList_append_src _ rfl _ _ 59 rfl N1 3 i1 (.int .i64 0) 1 8 Tryz.underlying59 hi1 iz0 iz1 iz2 rfl (by decide) (.slice ao2 pre2.length cap2) pre2.length cur rfl (by exact owns_upd OW4.out ((Upd.refl [] wr).alloc _) (by simp)) (some ⟨wr.heap.size, 0, none⟩) 1 1 [nV y] rfl (src_one (cell_new1 rfl) rfl) (by unfold maxLen; omega) (by omega) (by simp; omega) ?_))
              intro ao5 cap5 w5 hown5 hU5 hn5
              have hU5' := grown_upd hU5
              have hbl := IN2.out.blk_lt a rfl (by omega)
              have hds := DI2.out a rfl (by omega)
              have IN5 := hide (IN2.out.updF hU5' (fun b e _ hm => by cases e; exact hds _ (by simpa using hm) rfl))
              have U5 := hide (HU3.out.trans_new hU5' (fun q hq => .inr (by have := (owns_lt OW4.out q (by simpa using hq)).1; omega)))
              have OW5 := hide (show w5.ownsRow N1 TInt 1 (.slice ao5 (pre2 ++ [y]).length cap5) (pre2 ++ [y]).length ((pre2 ++ [y]).map nV) by rw [List.map_append, HCU.out]; simpa using hown5)
              have OB5 := hide (owns_lt OW5.out)
              have hz5 := hU5'.size
              obtain ⟨N5, hN5⟩ : ∃ N, w5.heap.size = N := ⟨_, rfl⟩
              have HN5 := hide hN5
              have s1 := fun wx => run_cut_h (P := Tryz.prog) TSI TInt Tryz.underlying59 sizeI (some a) left.length lcap2 k (k : Int) rfl (by omega) wx
              have s2 := fun wx => run_cut_l (P := Tryz.prog) TSI TInt Tryz.underlying59 sizeI (some a) left.length lcap2 (k + 1) ((k : Int) + 1) (by omega) (by omega) wx
              have hc1 := IN5.out.cut (l := 0) (h := k) (q := lcap2) (Nat.zero_le _) (by omega) (by omega) (Nat.le_refl _)
              simp only [Nat.sub_zero, List.drop_zero] at hc1
              rw [cutAt_zero] at hc1
              have C1 := hide hc1
              clear hown5 hU5 hU5' hn5 hya IN2 DI2 OW4 hN5 hc1 hds
              go_wp2_with (at_builtin; go_must (refine wpList_append_src _ rfl _ _ 59 rfl N5 3 i1 (.int .i64 0) 1 8 Tryz.underlying59 hi1 iz0 iz1 iz2 rfl (by decide) (.slice none 0 0) 0 [] rfl (World.ownsRow_nil _ _ _ _) (some a) k lcap2 ((left.take k).map nV) rfl C1.out.src (by unfold maxLen; omega) (by omega) (by have := HN5.out; omega) ?_))
              intro ao6 cap6 w6 hown6 hU6 hn6
              have hu6 : Upd [] w5 w6 := by simpa [Value.ownBlock] using hU6
              have IN6 := hide (IN5.out.upd hu6 (by simp))
              have OR6 := hide (show w6.ownsRow N5 TInt 1 (.slice ao6 k cap6) k ((left.take k).map nV) by simpa using hown6)
              have OW6 := hide (owns_upd OW5.out hu6 (by simp)); have U6 := hide (U5.out.trans hu6)
              have hz6 := hu6.size
              have hc2 := IN6.out.cut (l := k + 1) (h := left.length) (q := lcap2) (by omega) (Nat.le_refl _) (by omega) (Nat.le_refl _)
              rw [List.take_of_length_le (by simp)] at hc2
              have C2 := hide hc2
              clear hown6 hU6 hn6 hu6 hc2 IN5 OW5 U5 C1 s1
              go_wp2_with (at_builtin; go_must (refine wpList_append_src _ rfl _ _ 59 rfl N5 3 i1 (.int .i64 0) 1 8 Tryz.underlying59 hi1 iz0 iz1 iz2 rfl (by decide) (.slice ao6 k cap6) k ((left.take k).map nV) rfl OR6.out (cutAt (some a) (k + 1) lcap2) (left.length - (k + 1)) (lcap2 - (k + 1)) ((left.drop (k + 1)).map nV) rfl C2.out.src (by unfold maxLen; omega) (by omega) (by have := HN5.out; omega) ?_))
              intro ao7 cap7 w7 hown7 hU7 hn7
              have hob6 := owns_lt OR6.out
              have hn5' := HN5.out; have hn1' := HN1.out
              have OR7 := hide (show w7.ownsRow N5 TInt 1 (.slice ao7 (left.eraseIdx k).length cap7) (left.eraseIdx k).length ((left.eraseIdx k).map nV) by
                rw [HLE4.out, HER.out, List.map_append, List.map_take, List.map_drop, show left.length - 1 = k + (left.length - (k + 1)) by omega]; exact hown7)
              have OW7 := hide (owns_upd OW6.out hU7 (fun q hq hm => by have := (hob6 q (by simpa using hm)).1; have := (OB5.out q hq).2; omega))
              have U7 := hide (U6.out.trans_new hU7 (fun q hq => .inr (by have := (hob6 q (by simpa using hq)).1; omega)))
              clear hown7 hU7 hn7 hob6 IN6 OW6 U6 C2 s2 OR6
              go_wp2_with fail
              go_roundw
              case rel =>
                have hi7 := IntsAt.own OR7.out
                exact ⟨left.eraseIdx k, ao7, cap7, done + 1, pre2 ++ [y], ao5, cap5, by simp, by rw [HLE4.out]; rw [show left.length - 1 = k + (left.length - (k + 1)) by omega], by go_num, by rw [HLE4.out]; omega, hi7.low (Nat.zero_le _), by rw [HLE4.out]; exact HPN.out, OW7.out, U7.out,
                  fun b e _ q hq => by have h5 := hi7.lo b e; have := (OB5.out q hq).2; omega, fun x hx => HL2.out x (List.mem_of_mem_eraseIdx hx)⟩
              case measure =>
                show k + (left.length - (k + 1)) < left.length
                omega
            · have hl0 : left.length = 0 := by omega
              have d8 : decide ((left.length : Int) > 0) = false := by rw [hl0]; rfl
              have d9 : decide (0 < (left.length : Int)) = false := by rw [hl0]; rfl
              have hpre6 : pre2 ++ rest = all := by
                rw [← HPR.out, hl0]
                rfl
              have HPRE6 := hide hpre6
              clear hpre6 hl0 HPR
              go_wp2_with fail
              go_roundw
              case rel => exact ⟨i + 1, pre2, ao2, cap2, rfl, by go_num, by omega, by rw [HREST.out]; exact HPRE6.out, OW2.out, HU3.out⟩
              case measure => simp [RowKit.intOf]; omega
    · have d5 : decide ((pre.length : Int) < l.length) = false := by simp; omega
      have d5' : decide (pre.length < l.length) = false := by simpa using hlt
      have hpe : pre = all := by
        have h5 := HPRE.out
        have h6 : ((orderG (kfP ps) i (gs.drop i)).map (·.1)).length = 0 := by
          have := congrArg List.length h5
          rw [List.length_append, hal] at this
          omega
        rw [List.length_eq_zero_iff.1 h6, List.append_nil] at h5
        exact h5
      have hpl3 : pre.length = l.length := by omega
      have h8 := OW.out
      rw [hpl3, hpe] at h8
      have O8 := hide h8; have HL3 := hide hpl3
      have U8 := hide (U1.out.trans HU.out)
      clear hlt hpe hpl3 h8
      go_wp2_with fail
      go_ret
      exact ⟨⟨ao, cap, by first | rfl | (rw [HL3.out]; rfl), own_lower O8.out (by omega)⟩, U8.out⟩
end Go.Proofs.YthpnnffogbjhpaaGreatDoor.Kv
