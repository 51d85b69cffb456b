/- translate.flat over commands, Cmds. -/
import Derived.Test.YtfmaflaoplkdbaaGreatDoorTrW
set_option linter.unusedSimpArgs false
set_option linter.unusedVariables false
set_option linter.unnecessarySimpa false
namespace Go.Proofs.YtfmaflaoplkdbaaGreatDoor.Tr
open Go.RowKit Go.Proofs.YtfmaflaoplkdbaaGreatDoor.Crc Go.Proofs.YtfmaflaoplkdbaaGreatDoor.Cm Go.Proofs.YtfmaflaoplkdbaaGreatDoor.Var

theorem flat_take_le {X Y : Type} (f : X → List Y) (l : List X) (k : Nat) : ((l.take k).flatMap f).length ≤ (l.flatMap f).length := by
  conv => rhs; rw [← List.take_append_drop k l]
  rw [List.flatMap_append, List.length_append]
  omega
theorem flat_more {X Y : Type} (f : X → List Y) {l : List X} {k : Nat} {x : X} (h : l[k]? = some x) : (l.take k).flatMap f ++ f x = (l.take (k + 1)).flatMap f := by
  obtain ⟨hlt, e⟩ := List.getElem?_eq_some_iff.1 h
  rw [List.take_succ_eq_append_getElem hlt, List.flatMap_append, e]
  simp
set_option maxRecDepth 100000 in
set_option maxHeartbeats 2000000 in
theorem flatc_any {T : Nat → Prop} {v : Value} {l : List Sl} (w : World) (h : slK.row w T v l) (hl : (l.flatMap (·.cmds)).length ≤ 1000000) (hk : ∀ s ∈ l, ∀ c ∈ s.cmds, c.keys.length * 16 ≤ 140737488355328) :
    Calls Tryz.prog 60 #[v, .func (.func 61) #[] #[]] w fun e w' => (∃ v', e = .returned v' ∧ cmK.row w' (since w.heap.size w') v' (l.flatMap (·.cmds))) ∧ Upd [] w w' := by
  have hlen := h
  obtain ⟨xo, cp, rfl, hcp, hcm, hg⟩ := Row.get slK.hz h
  have HG := hide hg; have HK := hide hk
  simp only [maxLen] at hcm
  clear h hg hlen hk
  obtain ⟨i1, hi1, iz0, iz1, iz2⟩ := info_parts infoC
  go_enter Tryz.func60, Tryz.ntmps60
  go_wp2_with fail
  go_loopw [5, 10] (fun so si wr => ∃ (k : Nat) (L : List Cm), L = (l.take k).flatMap (·.cmds) ∧ k ≤ l.length ∧ si = .int .i64 k ∧ cmK.bag 25 wr w.heap.size so L ∧ w.heap.size ≤ wr.heap.size ∧ Upd [] w wr) (fun _ si _ => l.length - (intOf si).toNat)
  case atStart => exact ⟨0, [], rfl, by omega, rfl, cmK.bag_nil _ _ _, Nat.le_refl _, Upd.refl _ _⟩
  case round =>
    obtain ⟨k, L, hL, hk, rfl, hbg, hz, hu⟩ := hrel
    have HLK := hide hL
    clear hL
    have HBG := hide hbg; have HU := hide hu
    clear hu
    obtain ⟨ao, cap, rfl, hc1, hc2⟩ := Row.slice (cmK.bag_row hbg)
    by_cases hlt : k < l.length
    · have d5 : decide ((k : Int) < l.length) = true := by simp; omega
      have d5' : decide (k < l.length) = true := by simpa using hlt
      obtain ⟨s, hi⟩ : ∃ s, l[k]? = some s := ⟨_, List.getElem?_eq_getElem hlt⟩
      have htk := flat_more (·.cmds) hi
      have hle := flat_take_le (·.cmds) l (k + 1)
      rw [← htk, ← HLK.out, List.length_append] at hle
      rw [← HLK.out] at htk
      have hsk := HK.out s (List.mem_of_getElem? hi)
      have HSK := hide hsk
      clear hsk
      have hol2 := Own.lt hbg
      obtain ⟨b, off, cs, rfl, hb, hTb, ⟨hslot, vc, va, rfl, hvc, hva⟩, -, hcell⟩ := HG.out k s hi
      obtain ⟨ca, cc, rfl, -, -⟩ := Row.slice hvc
      obtain ⟨aa, ac, rfl, -, -⟩ := Row.slice hva
      have cx : ∀ j u, ([Value.int .u64 (s.slot : Int), .slice ca s.cmds.length cc, .slice aa s.ans.length ac] : List Value)[j]? = some u → wr.cell? ⟨b, off + k * 3 + j, none⟩ = some u := fun j u hj => by
        refine Eq.trans ?_ (hcell j u hj); show _ = w.cell? ⟨b, off + k * 3 + j, none⟩; have := HU.out.block b hb (by simp); simp only [World.cell?, this]
      have y0 : wr.cell? ⟨b, off + k * 3, none⟩ = some (.int .u64 (s.slot : Int)) := cx 0 _ rfl
      have y1 : wr.cell? ⟨b, off + k * 3 + 1, none⟩ = some (.slice ca s.cmds.length cc) := cx 1 _ rfl
      have y2 : wr.cell? ⟨b, off + k * 3 + 2, none⟩ = some (.slice aa s.ans.length ac) := cx 2 _ rfl
      have HOL := hide hol2; have HTK := hide htk; have VC := hide hvc; have VA := hide hva
      clear hbg hol2 htk hvc hva hi cx hcell
      go_wp2_with fail
      have hA := (Upd.refl [] wr).alloc (.cells #[.int .u64 (s.slot : Int), .slice ca s.cmds.length cc, .slice aa s.ans.length ac] 118)
      have hAs : (wr.alloc (.cells #[.int .u64 (s.slot : Int), .slice ca s.cmds.length cc, .slice aa s.ans.length ac] 118)).heap.size = wr.heap.size + 1 := by simp
      generalize wr.alloc (.cells #[.int .u64 (s.slot : Int), .slice ca s.cmds.length cc, .slice aa s.ans.length ac] 118) = w0 at *
      refine (cmds1_any (l := s.cmds) w0 (cmK.row_upd_nil VC.out (HU.out.trans hA)) (by omega) HSK.out).mono ?_
      rintro e w1 ⟨⟨v', rfl, hr1⟩, hu1⟩
      have hu01 := hA.trans hu1
      have hs1 := hu01.size
      obtain ⟨yo, yc, kss, ey, -, -, hke, hkz, hks, -⟩ := Row.src hr1
      cases ey
      have hke1 : Each (cmK.holds w1 (beside w.heap.size w1 (.slice ao L.length cap))) s.cmds kss := hke.mono fun _ _ _ h => cmK.mono h (since_beside (fun g hg => by have := (HOL.out g hg).2; omega) (by omega))
      obtain ⟨css, hcss, hrow⟩ := cmK.bag_open (cmK.bag_upd_nil HBG.out hu01)
      have HKE := hide hke1; have HCSS := hide hcss; have HROW := hide hrow; have HKS := hide hks; have U1 := hide (HU.out.trans hu01)
      have hz1 : w.heap.size ≤ w1.heap.size := by omega
      clear hke hke1 hkz hks hcss hrow hA hu1 hu01 hr1 HBG HU y0 y1 y2
      go_wp2_with (at_builtin; go_must (refine wpList_append_src _ rfl _ _ 31 rfl w.heap.size 25 i1 (.agg ZA) 7 80 Tryz.underlying31 hi1 iz0 iz1 iz2 rfl (by decide) (.slice ao L.length cap) L.length css.flatten rfl HROW.out yo s.cmds.length yc kss.flatten rfl HKS.out (by unfold maxLen; omega) (by omega) hz1 ?_))
      intro ao6 cap6 w6 hown6 hU6 hn6
      have bg6 := Kind.bag_mores HCSS.out HKE.out hown6 rfl hU6 hn6
      have u6 := U1.out.trans_new hU6 (fun g hm => .inr (by have := HOL.out _ (by simpa using hm); omega))
      have hz6 : w.heap.size ≤ w6.heap.size := by have := hU6.size; omega
      have BG6 := hide bg6; have U6 := hide u6
      clear hown6 hU6 hn6 bg6 u6
      go_wp2_with fail
      go_roundw
      case rel => exact ⟨k + 1, L ++ s.cmds, HTK.out, by omega, by go_num, BG6.out, hz6, U6.out⟩
      case measure => simp [intOf]; omega
    · have hkn : k = l.length := by omega
      have d5 : decide ((k : Int) < l.length) = false := by simp; omega
      have d5' : decide (k < l.length) = false := by simp; omega
      have hbg' := HBG.out
      have hLL := HLK.out
      rw [hkn, List.take_length] at hLL
      have HB := hide hbg'; have HLL := hide hLL
      clear hkn hbg hbg' hLL
      go_wp2_with fail
      go_ret
      rw [← HLL.out]
      exact ⟨⟨_, rfl, cmK.bag_row HB.out⟩, HU.out⟩
set_option maxHeartbeats 1000000 in
theorem cmds_any {T : Nat → Prop} {v : Value} {l : List Sl} (w : World) (h : slK.row w T v l) (hl : (l.flatMap (·.cmds)).length ≤ 1000000) (hk : ∀ s ∈ l, ∀ c ∈ s.cmds, c.keys.length * 16 ≤ 140737488355328) :
    Calls Tryz.prog 15 #[v] w fun e w' => (∃ v', e = .returned v' ∧ cmK.row w' (since w.heap.size w') v' (l.flatMap (·.cmds))) ∧ Upd [] w w' := by
  have H := hide h; have HK := hide hk
  obtain ⟨xo, cp, rfl, -, -⟩ := Row.slice h
  clear h hk
  go_enter Tryz.func15, Tryz.ntmps15
  go_wp2_with fail
  refine (flatc_any w H.out hl HK.out).mono ?_
  rintro e w1 ⟨⟨v', rfl, h1⟩, hu⟩
  have H1 := hide h1; have U1 := hide hu
  clear h1 hu
  go_wp2_with fail
  go_ret
  exact ⟨⟨_, rfl, H1.out⟩, U1.out⟩
end Go.Proofs.YtfmaflaoplkdbaaGreatDoor.Tr
