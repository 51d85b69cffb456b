/- The law AppPlays, walked. -/
import Derived.Test.YthpnnffogbjhpaaGreatDoorR11eL
import Derived.Test.YthpnnffogbjhpaaGreatDoorR11a
import Derived.Test.YthpnnffogbjhpaaGreatDoorApSm
import Derived.Test.YthpnnffogbjhpaaGreatDoorApFq
import Derived.Test.YthpnnffogbjhpaaGreatDoorKvWk
import Derived.Test.YthpnnffogbjhpaaGreatDoorKvGH
import Derived.Test.YthpnnffogbjhpaaGreatDoorGenAll
set_option linter.unusedSimpArgs false
set_option linter.unusedVariables false
set_option linter.unnecessarySimpa false
namespace Go.Proofs.YthpnnffogbjhpaaGreatDoor.Kv
set_option linter.unusedSimpArgs false
set_option linter.unusedVariables false
set_option linter.unnecessarySimpa false
open Go.RowKit Go.Lib Go.Proofs.YthpnnffogbjhpaaGreatDoor.Crc Go.Proofs.YthpnnffogbjhpaaGreatDoor.Cm Go.Proofs.YthpnnffogbjhpaaGreatDoor.Var

/-- The application and the document's, behind some commands. -/
structure PlA (w wr : World) (lo hi p B G : Nat) (a : Ap) (vp vl : Value) : Prop where
  ap : ApIs wr lo hi p a
  blk : wr.heap[B]? = some (.cells #[vp, vl, .int .u64 (a.n : Int)] TRa (0, 0))
  prs : pairK.row wr (since G wr) vp a.m
  las : laK.row wr (since G wr) vl a.t
  upd : Upd [] w wr
  size : G ≤ wr.heap.size
theorem since_mono {G : Nat} {w w' : World} (h : w.heap.size ≤ w'.heap.size) : ∀ k, since G w k → since G w' k := fun k hk => ⟨hk.1, by have := hk.2; omega⟩
theorem PlA.upd_nil {w wr w' : World} {lo hi p B G : Nat} {a : Ap} {vp vl : Value} (h : PlA w wr lo hi p B G a vp vl) (hu : Upd [] wr w') : PlA w w' lo hi p B G a vp vl :=
  ⟨h.ap.upd_nil hu, hu.get h.blk (by simp), pairK.row_mono (pairK.row_upd_nil h.prs hu) (since_mono hu.size), laK.row_mono (laK.row_upd_nil h.las hu) (since_mono hu.size), h.upd.trans hu, Nat.le_trans h.size hu.size⟩
theorem b_self (f : Bool) : (f == f) = true := by cases f <;> rfl
theorem b_ne (f : Bool) : (f != f) = false := by cases f <;> rfl
theorem b_not (f : Bool) : ((!f) == f) = false := by cases f <;> rfl
def nsk : List UInt8 := [110, 111, 32, 115, 117, 99, 104, 32, 107, 101, 121]
def nsc : Cm := ⟨1, 0, 1, [nsk], [], [], 0⟩
theorem nsc_fits : nsc.Fits := fits_small (by decide) (by decide) (by decide) (by decide) (by decide) (by decide) (by decide) (by decide)
/-- app.Same of the one ahead and the one behind a command. -/
theorem asamef_any {lo1 hi1 p1 lo2 hi2 p2 i : Nat} {a b : Ap} {c : Cm} {r : Rp} {f : Bool} (hd : apDo a c = (b, r, f)) (w : World) (h1 : ApIs w lo1 hi1 p1 a) (h2 : ApIs w lo2 hi2 p2 b) (o1 : ApOk a i) (o2 : ApOk b (i + 1)) (hi4 : i ≤ 9000) :
    Calls Tryz.prog 16 #[.pointer (some ⟨p1, 0, none⟩), .pointer (some ⟨p2, 0, none⟩)] w fun e w' => e = .returned (.bool (!f)) ∧ Upd [] w w' := by
  cases f with
  | true =>
    have h := apDo_fresh (a := a) (c := c) (by rw [hd])
    rw [hd] at h
    exact adiff_any w h1 h2 (o1.mono (Nat.le_succ i)) o2 (by omega) (by simp only at h; omega)
  | false =>
    have h := apDo_stale (a := a) (c := c) (by rw [hd])
    rw [hd] at h
    simp only at h
    subst h
    exact asame_any w h1 h2 o1 (by omega)
set_option maxRecDepth 100000 in
set_option maxHeartbeats 16000000 in
theorem aplays_any {T : Nat → Prop} {v : Value} {l : List Cm} (w : World) (he : EnvAt w) (h : cmK.row w T v l) :
    Calls Tryz.prog 4 #[v] w fun e w' => e = .returned (.bool true) ∧ Upd [] w w' := by
  have CR := hide h; have ENV := hide he
  obtain ⟨xo, cp, rfl, h1, h2, hg⟩ := cm_get h
  have HG := hide hg
  simp only [maxLen] at h2
  have hfit : ∀ c ∈ l, c.client < 4294967296 ∧ c.seq < 4294967296 := fun c hc => by
    obtain ⟨i, hi⟩ := List.getElem?_of_mem hc
    obtain ⟨_, _, _, _, -, -, -, fit, -⟩ := hg i c hi
    exact ⟨fit.1, fit.2.1⟩
  have FOK := hide (ApG.fold hfit)
  clear h he hg hfit
  go_enter Tryz.func4, Tryz.ntmps4
  go_wp2_with fail
  refine (great_any w CR.out).mono ?_
  rintro e w1 ⟨hu1, r0, rfl, hr0⟩
  have U1 := hide hu1; have R0 := hide hr0; have E1 := hide (ENV.out.upd_nil hu1)
  clear hu1 hr0
  cases r0 with
  | true =>
    go_wp2_with fail
    refine (wakes_any w1 E1.out).mono ?_
    rintro e w2 ⟨rfl, hu2⟩
    have U2 := hide (U1.out.trans hu2)
    clear hu2
    go_wp2_with fail
    go_ret
    exact ⟨rfl, U2.out⟩
  | false =>
    have hsm := R0.out rfl
    have hl100 := hsm.1
    clear R0 hsm
    go_wp2_with fail
    refine (anew_any w1).mono ?_
    rintro e w2 ⟨⟨p, rfl, ha2⟩, hu2⟩
    go_upto_region 5 with fail
    have hb3 := blk_new w2 (.cells #[.slice none 0 0, .slice none 0 0, .int .u64 0] TRa)
    have hu3 := (Upd.refl [] w2).alloc (.cells #[.slice none 0 0, .slice none 0 0, .int .u64 0] TRa)
    have hs3 : (w2.alloc (.cells #[.slice none 0 0, .slice none 0 0, .int .u64 0] TRa)).heap.size = w2.heap.size + 1 := by simp
    change Code.wp _ _ _ _ (w2.alloc (.cells #[.slice none 0 0, .slice none 0 0, .int .u64 0] TRa))
    generalize w2.alloc (.cells #[.slice none 0 0, .slice none 0 0, .int .u64 0] TRa) = w3 at *
    obtain ⟨B, hB⟩ : ∃ x, w2.heap.size = x := ⟨_, rfl⟩
    obtain ⟨lo, hlo⟩ : ∃ x, w1.heap.size = x := ⟨_, rfl⟩
    obtain ⟨G, hG⟩ : ∃ x, w3.heap.size = x := ⟨_, rfl⟩
    have hlw : w.heap.size ≤ lo := by have := U1.out.size; omega
    have hlB : lo ≤ B := by have := hu2.size; omega
    have PL := hide (show PlA w w3 lo B p B G ap0 (.slice none 0 0) (.slice none 0 0) from ⟨by rw [← hlo, ← hB]; exact ha2.upd_nil hu3, by rw [← hB]; exact hb3, pairK.row_nil _ _, laK.row_nil _ _, (U1.out.trans hu2).trans hu3, by omega⟩)
    rw [hB] at hs3 ⊢
    rw [hG] at hs3
    clear hb3 hu3 hu2 ha2 hlo hB hG E1 U1
    go_wp2_with fail
    go_loopw [5] (fun si wr => ∃ (i : Nat) (a : Ap) (vp vl : Value), i ≤ l.length ∧ si = .int .i64 i ∧ a = foldA (l.take i) ∧ PlA w wr lo B p B G a vp vl) (fun si _ => l.length - (RowKit.intOf si).toNat)
    case atStart => exact ⟨0, ap0, _, _, by omega, rfl, rfl, PL.out⟩
    case round =>
      obtain ⟨i, a, vp, vl, hi, rfl, ha, hp⟩ := hrel
      have hok := FOK.out i hi (by omega)
      rw [← ha] at hok
      have P := hide hp; have HA := hide ha; have OK := hide hok.ok; have AG := hide hok
      obtain ⟨po, pc, rfl, -, -⟩ := Row.slice hp.prs
      obtain ⟨mo, mc, rfl, -, -⟩ := Row.slice hp.las
      have hzr := hp.size
      clear hp ha hok PL
      by_cases hlt : i < l.length
      · have d5 : decide ((i : Int) < l.length) = true := by simp; omega
        have d5' : decide (i < l.length) = true := by simpa using hlt
        obtain ⟨c, hc⟩ : ∃ c, l[i]? = some c := ⟨_, List.getElem?_eq_getElem hlt⟩
        obtain ⟨bc, oc, ka, kc, rfl, hbc, -, fit, hks, hcc⟩ := HG.out i c hc
        have hi4 : i ≤ 400 := by omega
        obtain ⟨a', r', f', hd⟩ : ∃ a' r' f', apDo a c = (a', r', f') := ⟨_, _, _, rfl⟩
        have hnx := foldA_next hc
        rw [← HA.out, hd] at hnx
        simp only at hnx
        have hok' := FOK.out (i + 1) (by omega) (by omega)
        rw [hnx] at hok'
        have FIT := hide fit; have KS := hide hks; have CC := hide hcc; have HD := hide hd; have NX := hide hnx; have OK' := hide hok'.ok
        have hn' := hok'.ok.n
        clear hc fit hks hcc hd hnx hok'
        go_wp2_with fail
        refine (acopy_any wr P.out.ap OK.out (by omega)).mono ?_
        rintro e w4 ⟨⟨q, rfl, hq⟩, hu4⟩
        have P4 := hide (P.out.upd_nil hu4); have Q4 := hide hq
        have hz4 := hu4.size
        clear hq hu4 P
        go_upto_region 9 with fail
        have BB := hide P4.out.blk; have PR := hide P4.out.prs; have LR := hide P4.out.las
        have HTP := hide (show ∀ k, since G w4 k → k < w4.heap.size from fun k hk => hk.2)
        have HTL := hide (show G ≤ w4.heap.size from P4.out.size)
        have HC := hide (show CmAt w4 T (cmv c (.slice ka c.keys.length kc)) c from ⟨FIT.out, _, rfl, KS.out.upd_nil P4.out.upd⟩)
        have CC4 := hide (show ∀ wx, Upd [] w4 wx → Cells7 wx bc (oc + i * 7) c ka kc from fun wx hS => CC.out.upd (P4.out.upd.trans hS) hbc (by simp))
        go_cut [7, 8, 9] (fun s7 s8 s9 wx => Nexted w4 G a' r' f' s7 s8 s9 wx)
        case first =>
          as_aux_lemma =>
          refine wp_region_z (fun wx => Upd [] w4 wx) 99 (by kernel_rfl) ?_
          have s0 : Upd [] w4 (w4.drewN 1) := (Upd.refl _ _).drewN 1
          have Vw4 := hide s0
          refine zE 0 rfl (by kernel_rfl) (fun _ _ _ _ h => h) rfl (by exact s0) ?_
          apply Exists.intro
          refine ⟨fun wx hS => ?_, ?_⟩
          · obtain ⟨k0, k1, k2⟩ := cell3 (hS.get BB.out (by simp)); go_simp; rfl
          simp only [Act.put, List.setIfInBounds_toArray, List.set_cons_succ, List.set_cons_zero, List.getElem_toArray, List.getElem_cons_zero]
          refine zE 1 rfl (by kernel_rfl) (fun _ _ _ _ h => h) rfl (by exact s0) ?_
          apply Exists.intro
          refine ⟨fun wx hS => ?_, ?_⟩
          · go_simp; rfl
          simp only [Act.put, zz1, zz2, zz3, zz4, zz5, zz6]
          refine zE 2 rfl (by kernel_rfl) (fun _ _ _ _ h => h) rfl (by exact s0) ?_
          apply Exists.intro
          refine ⟨fun wx hS => ?_, ?_⟩
          · go_simp; rfl
          simp only [Act.put, zz1, zz2, zz3, zz4, zz5, zz6]
          refine zE 3 rfl (by kernel_rfl) (fun _ _ _ _ h => h) rfl (by exact s0) ?_
          apply Exists.intro
          refine ⟨fun wx hS => ?_, ?_⟩
          · go_simp; rfl
          simp only [Act.put, zz1, zz2, zz3, zz4, zz5, zz6]
          refine zE 4 rfl (by kernel_rfl) (fun _ _ _ _ h => h) rfl (by exact s0) ?_
          apply Exists.intro
          refine ⟨fun wx hS => ?_, ?_⟩
          · obtain ⟨c0, c1, c2, c3, c4, c5, c6⟩ := CC4.out wx hS; go_simp; rfl
          simp only [Act.put, zz1, zz2, zz3, zz4, zz5, zz6]
          obtain ⟨w5, hw5⟩ : ∃ x, w4.drewN 1 = x := ⟨_, rfl⟩
          rw [hw5] at s0 Vw4 ⊢
          have Vw5 := Vw4
          clear hw5 s0 Vw4
          refine wpAnyZ_three 5 10 11 (by kernel_rfl) rfl rfl rfl rfl rfl rfl (fun K hK => ?_) (fun K hK => ?_) (fun K hK => ?_)
          · try simp only [List.getElem_toArray, List.getElem_cons_succ, List.getElem_cons_zero]
            go_simp
            have hda := radoP_any (c := c) (T' := T) (vc := cmv c (.slice ka c.keys.length kc)) w5 (pairK.row_upd_nil PR.out Vw5.out) (fun k hk => by have := HTP.out k hk; have := Vw5.out.size; omega) (laK.row_upd_nil LR.out Vw5.out) (HC.out.upd_nil Vw5.out) OK.out hi4
            simp only [cmv, strV] at hda
            rw [HD.out] at hda
            have HDA := hide hda
            clear hda
            refine HDA.out.mono ?_
            rintro e x1 ⟨⟨vq, vm, rfl, hq, hm⟩, hu⟩
            obtain ⟨qo, qc, rfl, -, -⟩ := Row.slice hq
            obtain ⟨mo, mc, rfl, -, -⟩ := Row.slice hm
            simp only at hq hm
            have Vx1 := hide (Vw5.out.trans hu)
            have Cx1 := hide (Upd.refl ([] : List Nat) x1)
            have HQ := hide hq; have HM := hide hm; have SC := hide hu.size
            clear hq hm hu HDA
            unfold rpv
            refine hK _ _ (.inr Vx1.out) ?_
            clear hK K
            try simp only [Act.put, zz1, zz2, zz3]
            refine zE 6 rfl (by kernel_rfl) (fun _ _ _ _ h => h) rfl (by exact Vx1.out) ?_
            apply Exists.intro
            refine ⟨fun wx hS => ?_, ?_⟩
            · go_simp; rfl
            simp only [Act.put, zz1, zz2, zz3, zz4, zz5, zz6]
            refine zE 7 rfl (by kernel_rfl) (fun _ _ _ _ h => h) rfl (by exact Vx1.out) ?_
            apply Exists.intro
            refine ⟨fun wx hS => ?_, ?_⟩
            · go_simp; rfl
            simp only [Act.put, zz1, zz2, zz3, zz4, zz5, zz6]
            refine zE 8 rfl (by kernel_rfl) (fun _ _ _ _ h => h) rfl (by exact Vx1.out) ?_
            apply Exists.intro
            refine ⟨fun wx hS => ?_, ?_⟩
            · go_simp; rfl
            simp only [Act.put, zz1, zz2, zz3, zz4, zz5, zz6]
            refine zE 9 rfl (by kernel_rfl) (fun _ _ _ _ h => h) rfl (by exact Vx1.out) ?_
            apply Exists.intro
            refine ⟨fun wx hS => ?_, ?_⟩
            · go_simp; rfl
            simp only [Act.put, zz1, zz2, zz3, zz4, zz5, zz6]
            refine wpAnyZ_two 10 11 (by kernel_rfl) rfl rfl rfl rfl (fun K hK => ?_) (fun K hK => ?_)
            · try simp only [List.getElem_toArray, List.getElem_cons_succ, List.getElem_cons_zero]
              go_simp
              have hN := blk_new x1 (.cells #[.slice none 0 0, .slice none 0 0, .int .u64 0] TRa)
              have hu := (Upd.refl [] x1).alloc (.cells #[.slice none 0 0, .slice none 0 0, .int .u64 0] TRa)
              have hs : (x1.alloc (.cells #[.slice none 0 0, .slice none 0 0, .int .u64 0] TRa)).heap.size = x1.heap.size + 1 := by simp
              have hzx1 : w4.heap.size ≤ x1.heap.size := Vx1.out.size
              generalize x1.alloc (.cells #[.slice none 0 0, .slice none 0 0, .int .u64 0] TRa) = x2 at *
              have Vx2 := hide (Vx1.out.trans hu)
              have Cx2 := hide (Cx1.out.trans (hu.mono (by simp)))
              obtain ⟨B7, hB⟩ : ∃ x, x1.heap.size = x := ⟨_, rfl⟩
              have KB7 := hide hB
              rw [hB] at hN hs ⊢
              have NB7x2 := hide hN
              have SB7 := hide hs
              clear hN hu hs hB hzx1
              refine hK _ _ (.inr Vx2.out) ?_
              clear hK K
              try simp only [Act.put, zz1, zz2, zz3]
              refine wpAnyZ_one 11 (by kernel_rfl) rfl rfl (fun K hK => ?_)
              try simp only [List.getElem_toArray, List.getElem_cons_succ, List.getElem_cons_zero]
              try simp only [List.getElem_toArray, List.getElem_cons_succ, List.getElem_cons_zero]
              go_simp
              have hN := blk_new x2 (.cells #[.int .u8 0, .string ⟨#[]⟩] TRp)
              have hu := (Upd.refl [] x2).alloc (.cells #[.int .u8 0, .string ⟨#[]⟩] TRp)
              have hs : (x2.alloc (.cells #[.int .u8 0, .string ⟨#[]⟩] TRp)).heap.size = x2.heap.size + 1 := by simp
              have hzx2 : w4.heap.size ≤ x2.heap.size := Vx2.out.size
              generalize x2.alloc (.cells #[.int .u8 0, .string ⟨#[]⟩] TRp) = x3 at *
              have Vx3 := hide (Vx2.out.trans hu)
              have Cx3 := hide (Cx2.out.trans (hu.mono (by simp)))
              have NB7x3 := hide (hu.get NB7x2.out (by simp))
              obtain ⟨B8, hB⟩ : ∃ x, x2.heap.size = x := ⟨_, rfl⟩
              have KB8 := hide hB
              rw [hB] at hN hs ⊢
              have NB8x3 := hide hN
              have SB8 := hide hs
              clear hN hu hs hB hzx2
              refine hK _ _ (.inr Vx3.out) ?_
              clear hK K
              try simp only [Act.put, zz1, zz2, zz3]
              refine wpAnyZ_one 12 (by kernel_rfl) rfl rfl (fun K hK => ?_)
              try simp only [List.getElem_toArray, List.getElem_cons_succ, List.getElem_cons_zero]
              try simp only [List.getElem_toArray, List.getElem_cons_succ, List.getElem_cons_zero]
              obtain ⟨z0, z1, z2, z3, z4, z5, zz⟩ := res_facts33 NB7x3.out
              have ZZ := hide zz
              clear zz
              go_simp
              obtain ⟨e1, e3⟩ := ZZ.out (.slice qo a'.m.length qc) (.slice mo a'.t.length mc) (.int .u64 (a'.n : Int))
              clear z0 z1 z2 z3 z4 z5 ZZ
              generalize (((x3.setCell ⟨B7, 0, none⟩ (.slice qo a'.m.length qc)).setCell ⟨B7, 1, none⟩ (.slice mo a'.t.length mc)).setCell ⟨B7, 2, none⟩ (.int .u64 (a'.n : Int))) = x4 at e1 e3 ⊢
              have g7 : w4.heap.size ≤ B7 := by have := KB7.out; have := Vx1.out.size; omega
              have Vx4 := hide (Vx3.out.trans_new e3 (fun k hk => .inr (by simp at hk; omega)))
              have Cx4 := hide ((Cx3.out.mono (by simp)).trans (e3.mono (by simp)) : Upd [B7] _ _)
              have NB7x4 := hide e1
              have Lx4 := hide e3.size
              have n78 : B8 ≠ B7 := by have := KB7.out; have := KB8.out; have := SB7.out; have := SB8.out; have := (SC.out); omega
              have NB8x4 := hide (e3.get NB8x3.out (by simpa using n78))
              clear n78
              clear e1 e3
              refine hK _ _ (.inr Vx4.out) ?_
              clear hK K
              try simp only [Act.put, zz1, zz2, zz3]
              refine wpAnyZ_one 13 (by kernel_rfl) rfl rfl (fun K hK => ?_)
              try simp only [List.getElem_toArray, List.getElem_cons_succ, List.getElem_cons_zero]
              try simp only [List.getElem_toArray, List.getElem_cons_succ, List.getElem_cons_zero]
              obtain ⟨z0, z1, f0, f1, z2, f2⟩ := res_facts NB8x4.out
              go_simp
              have e1 := stored2 (v0 := .int .u8 (r'.code : Int)) (v1 := .string (strOf r'.text)) NB8x4.out
              have e3 := upd2 x4 B8 (.int .u8 (r'.code : Int)) (.string (strOf r'.text))
              clear z0 z1 f0 f1 z2 f2
              generalize ((x4.setCell ⟨B8, 0, none⟩ (.int .u8 (r'.code : Int))).setCell ⟨B8, 1, none⟩ (.string (strOf r'.text))) = x5 at e1 e3 ⊢
              have g8 : w4.heap.size ≤ B8 := by have := KB8.out; have := Vx2.out.size; omega
              have n78 : B7 ≠ B8 := by have := KB7.out; have := KB8.out; have := SB7.out; have := SB8.out; have := (SC.out); have := (Lx4.out); omega
              have Vx5 := hide (Vx4.out.trans_new e3 (fun k hk => .inr (by simp at hk; omega)))
              have Cx5 := hide ((Cx4.out.mono (by simp)).trans (e3.mono (by simp)) : Upd [B7, B8] _ _)
              have NB8x5 := hide e1; have NB7x5 := hide (e3.get NB7x4.out (by simpa using n78))
              have Lx5 := hide e3.size
              clear e1 e3
              refine hK _ _ (.inr Vx5.out) ?_
              clear hK K
              try simp only [Act.put, zz1, zz2, zz3]
              refine wpAnyZ_one 14 (by kernel_rfl) rfl rfl (fun K hK => ?_)
              try simp only [List.getElem_toArray, List.getElem_cons_succ, List.getElem_cons_zero]
              go_simp
              refine hK _ _ (.inr Vx5.out) ?_
              clear hK K
              try simp only [Act.put, zz1, zz2, zz3]
              refine wpAnyZ_done (by kernel_rfl) ?_ _
              go_wp2_with fail
              go_meet
              have k7 := KB7.out; have k8 := KB8.out; have s7 := SB7.out; have s8 := SB8.out; have sc := SC.out; have vz := Vx5.out.size; have hp := Vw5.out.size
              have := SC.out
              have := Lx4.out
              have := Lx5.out
              exact Nexted.mk NB7x5.out NB8x5.out g7 g8 Vx5.out Cx5.out HQ.out HM.out HTP.out HTL.out Vw5.out.size (by omega) (by omega)
            · try simp only [List.getElem_toArray, List.getElem_cons_succ, List.getElem_cons_zero]
              go_simp
              have hN := blk_new x1 (.cells #[.int .u8 0, .string ⟨#[]⟩] TRp)
              have hu := (Upd.refl [] x1).alloc (.cells #[.int .u8 0, .string ⟨#[]⟩] TRp)
              have hs : (x1.alloc (.cells #[.int .u8 0, .string ⟨#[]⟩] TRp)).heap.size = x1.heap.size + 1 := by simp
              have hzx1 : w4.heap.size ≤ x1.heap.size := Vx1.out.size
              generalize x1.alloc (.cells #[.int .u8 0, .string ⟨#[]⟩] TRp) = x6 at *
              have Vx6 := hide (Vx1.out.trans hu)
              have Cx6 := hide (Cx1.out.trans (hu.mono (by simp)))
              obtain ⟨B8, hB⟩ : ∃ x, x1.heap.size = x := ⟨_, rfl⟩
              have KB8 := hide hB
              rw [hB] at hN hs ⊢
              have NB8x6 := hide hN
              have SB8 := hide hs
              clear hN hu hs hB hzx1
              refine hK _ _ (.inr Vx6.out) ?_
              clear hK K
              try simp only [Act.put, zz1, zz2, zz3]
              refine wpAnyZ_one 10 (by kernel_rfl) rfl rfl (fun K hK => ?_)
              try simp only [List.getElem_toArray, List.getElem_cons_succ, List.getElem_cons_zero]
              try simp only [List.getElem_toArray, List.getElem_cons_succ, List.getElem_cons_zero]
              go_simp
              have hN := blk_new x6 (.cells #[.slice none 0 0, .slice none 0 0, .int .u64 0] TRa)
              have hu := (Upd.refl [] x6).alloc (.cells #[.slice none 0 0, .slice none 0 0, .int .u64 0] TRa)
              have hs : (x6.alloc (.cells #[.slice none 0 0, .slice none 0 0, .int .u64 0] TRa)).heap.size = x6.heap.size + 1 := by simp
              have hzx6 : w4.heap.size ≤ x6.heap.size := Vx6.out.size
              generalize x6.alloc (.cells #[.slice none 0 0, .slice none 0 0, .int .u64 0] TRa) = x7 at *
              have Vx7 := hide (Vx6.out.trans hu)
              have Cx7 := hide (Cx6.out.trans (hu.mono (by simp)))
              have NB8x7 := hide (hu.get NB8x6.out (by simp))
              obtain ⟨B7, hB⟩ : ∃ x, x6.heap.size = x := ⟨_, rfl⟩
              have KB7 := hide hB
              rw [hB] at hN hs ⊢
              have NB7x7 := hide hN
              have SB7 := hide hs
              clear hN hu hs hB hzx6
              refine hK _ _ (.inr Vx7.out) ?_
              clear hK K
              try simp only [Act.put, zz1, zz2, zz3]
              refine wpAnyZ_one 12 (by kernel_rfl) rfl rfl (fun K hK => ?_)
              try simp only [List.getElem_toArray, List.getElem_cons_succ, List.getElem_cons_zero]
              try simp only [List.getElem_toArray, List.getElem_cons_succ, List.getElem_cons_zero]
              obtain ⟨z0, z1, z2, z3, z4, z5, zz⟩ := res_facts33 NB7x7.out
              have ZZ := hide zz
              clear zz
              go_simp
              obtain ⟨e1, e3⟩ := ZZ.out (.slice qo a'.m.length qc) (.slice mo a'.t.length mc) (.int .u64 (a'.n : Int))
              clear z0 z1 z2 z3 z4 z5 ZZ
              generalize (((x7.setCell ⟨B7, 0, none⟩ (.slice qo a'.m.length qc)).setCell ⟨B7, 1, none⟩ (.slice mo a'.t.length mc)).setCell ⟨B7, 2, none⟩ (.int .u64 (a'.n : Int))) = x8 at e1 e3 ⊢
              have g7 : w4.heap.size ≤ B7 := by have := KB7.out; have := Vx6.out.size; omega
              have Vx8 := hide (Vx7.out.trans_new e3 (fun k hk => .inr (by simp at hk; omega)))
              have Cx8 := hide ((Cx7.out.mono (by simp)).trans (e3.mono (by simp)) : Upd [B7] _ _)
              have NB7x8 := hide e1
              have Lx8 := hide e3.size
              have n78 : B8 ≠ B7 := by have := KB7.out; have := KB8.out; have := SB7.out; have := SB8.out; have := (SC.out); omega
              have NB8x8 := hide (e3.get NB8x7.out (by simpa using n78))
              clear n78
              clear e1 e3
              refine hK _ _ (.inr Vx8.out) ?_
              clear hK K
              try simp only [Act.put, zz1, zz2, zz3]
              refine wpAnyZ_one 13 (by kernel_rfl) rfl rfl (fun K hK => ?_)
              try simp only [List.getElem_toArray, List.getElem_cons_succ, List.getElem_cons_zero]
              try simp only [List.getElem_toArray, List.getElem_cons_succ, List.getElem_cons_zero]
              obtain ⟨z0, z1, f0, f1, z2, f2⟩ := res_facts NB8x8.out
              go_simp
              have e1 := stored2 (v0 := .int .u8 (r'.code : Int)) (v1 := .string (strOf r'.text)) NB8x8.out
              have e3 := upd2 x8 B8 (.int .u8 (r'.code : Int)) (.string (strOf r'.text))
              clear z0 z1 f0 f1 z2 f2
              generalize ((x8.setCell ⟨B8, 0, none⟩ (.int .u8 (r'.code : Int))).setCell ⟨B8, 1, none⟩ (.string (strOf r'.text))) = x9 at e1 e3 ⊢
              have g8 : w4.heap.size ≤ B8 := by have := KB8.out; have := Vx1.out.size; omega
              have n78 : B7 ≠ B8 := by have := KB7.out; have := KB8.out; have := SB7.out; have := SB8.out; have := (SC.out); have := (Lx8.out); omega
              have Vx9 := hide (Vx8.out.trans_new e3 (fun k hk => .inr (by simp at hk; omega)))
              have Cx9 := hide ((Cx8.out.mono (by simp)).trans (e3.mono (by simp)) : Upd [B7, B8] _ _)
              have NB8x9 := hide e1; have NB7x9 := hide (e3.get NB7x8.out (by simpa using n78))
              have Lx9 := hide e3.size
              clear e1 e3
              refine hK _ _ (.inr Vx9.out) ?_
              clear hK K
              try simp only [Act.put, zz1, zz2, zz3]
              refine wpAnyZ_one 14 (by kernel_rfl) rfl rfl (fun K hK => ?_)
              try simp only [List.getElem_toArray, List.getElem_cons_succ, List.getElem_cons_zero]
              go_simp
              refine hK _ _ (.inr Vx9.out) ?_
              clear hK K
              try simp only [Act.put, zz1, zz2, zz3]
              refine wpAnyZ_done (by kernel_rfl) ?_ _
              go_wp2_with fail
              go_meet
              have k7 := KB7.out; have k8 := KB8.out; have s7 := SB7.out; have s8 := SB8.out; have sc := SC.out; have vz := Vx9.out.size; have hp := Vw5.out.size
              have := SC.out
              have := Lx8.out
              have := Lx9.out
              exact Nexted.mk NB7x9.out NB8x9.out g7 g8 Vx9.out Cx9.out HQ.out HM.out HTP.out HTL.out Vw5.out.size (by omega) (by omega)
          · try simp only [List.getElem_toArray, List.getElem_cons_succ, List.getElem_cons_zero]
            go_simp
            have hN := blk_new w5 (.cells #[.slice none 0 0, .slice none 0 0, .int .u64 0] TRa)
            have hu := (Upd.refl [] w5).alloc (.cells #[.slice none 0 0, .slice none 0 0, .int .u64 0] TRa)
            have hs : (w5.alloc (.cells #[.slice none 0 0, .slice none 0 0, .int .u64 0] TRa)).heap.size = w5.heap.size + 1 := by simp
            have hzw5 : w4.heap.size ≤ w5.heap.size := Vw5.out.size
            generalize w5.alloc (.cells #[.slice none 0 0, .slice none 0 0, .int .u64 0] TRa) = x10 at *
            have Vx10 := hide (Vw5.out.trans hu)
            obtain ⟨B7, hB⟩ : ∃ x, w5.heap.size = x := ⟨_, rfl⟩
            have KB7 := hide hB
            rw [hB] at hN hs ⊢
            have NB7x10 := hide hN
            have SB7 := hide hs
            clear hN hu hs hB hzw5
            refine hK _ _ (.inr Vx10.out) ?_
            clear hK K
            try simp only [Act.put, zz1, zz2, zz3]
            refine wpAnyZ_two 5 11 (by kernel_rfl) rfl rfl rfl rfl (fun K hK => ?_) (fun K hK => ?_)
            · try simp only [List.getElem_toArray, List.getElem_cons_succ, List.getElem_cons_zero]
              go_simp
              have hda := radoP_any (c := c) (T' := T) (vc := cmv c (.slice ka c.keys.length kc)) x10 (pairK.row_upd_nil PR.out Vx10.out) (fun k hk => by have := HTP.out k hk; have := Vx10.out.size; omega) (laK.row_upd_nil LR.out Vx10.out) (HC.out.upd_nil Vx10.out) OK.out hi4
              simp only [cmv, strV] at hda
              rw [HD.out] at hda
              have HDA := hide hda
              clear hda
              refine HDA.out.mono ?_
              rintro e x11 ⟨⟨vq, vm, rfl, hq, hm⟩, hu⟩
              obtain ⟨qo, qc, rfl, -, -⟩ := Row.slice hq
              obtain ⟨mo, mc, rfl, -, -⟩ := Row.slice hm
              simp only at hq hm
              have Vx11 := hide (Vx10.out.trans hu)
              have Cx11 := hide (Upd.refl ([] : List Nat) x11)
              have HQ := hide hq; have HM := hide hm; have SC := hide hu.size
              have NB7x11 := hide (hu.get NB7x10.out (by simp))
              clear hq hm hu HDA
              unfold rpv
              refine hK _ _ (.inr Vx11.out) ?_
              clear hK K
              try simp only [Act.put, zz1, zz2, zz3]
              refine zE 6 rfl (by kernel_rfl) (fun _ _ _ _ h => h) rfl (by exact Vx11.out) ?_
              apply Exists.intro
              refine ⟨fun wx hS => ?_, ?_⟩
              · go_simp; rfl
              simp only [Act.put, zz1, zz2, zz3, zz4, zz5, zz6]
              refine zE 7 rfl (by kernel_rfl) (fun _ _ _ _ h => h) rfl (by exact Vx11.out) ?_
              apply Exists.intro
              refine ⟨fun wx hS => ?_, ?_⟩
              · go_simp; rfl
              simp only [Act.put, zz1, zz2, zz3, zz4, zz5, zz6]
              refine zE 8 rfl (by kernel_rfl) (fun _ _ _ _ h => h) rfl (by exact Vx11.out) ?_
              apply Exists.intro
              refine ⟨fun wx hS => ?_, ?_⟩
              · go_simp; rfl
              simp only [Act.put, zz1, zz2, zz3, zz4, zz5, zz6]
              refine zE 9 rfl (by kernel_rfl) (fun _ _ _ _ h => h) rfl (by exact Vx11.out) ?_
              apply Exists.intro
              refine ⟨fun wx hS => ?_, ?_⟩
              · go_simp; rfl
              simp only [Act.put, zz1, zz2, zz3, zz4, zz5, zz6]
              refine wpAnyZ_one 11 (by kernel_rfl) rfl rfl (fun K hK => ?_)
              try simp only [List.getElem_toArray, List.getElem_cons_succ, List.getElem_cons_zero]
              try simp only [List.getElem_toArray, List.getElem_cons_succ, List.getElem_cons_zero]
              go_simp
              have hN := blk_new x11 (.cells #[.int .u8 0, .string ⟨#[]⟩] TRp)
              have hu := (Upd.refl [] x11).alloc (.cells #[.int .u8 0, .string ⟨#[]⟩] TRp)
              have hs : (x11.alloc (.cells #[.int .u8 0, .string ⟨#[]⟩] TRp)).heap.size = x11.heap.size + 1 := by simp
              have hzx11 : w4.heap.size ≤ x11.heap.size := Vx11.out.size
              generalize x11.alloc (.cells #[.int .u8 0, .string ⟨#[]⟩] TRp) = x12 at *
              have Vx12 := hide (Vx11.out.trans hu)
              have Cx12 := hide (Cx11.out.trans (hu.mono (by simp)))
              have NB7x12 := hide (hu.get NB7x11.out (by simp))
              obtain ⟨B8, hB⟩ : ∃ x, x11.heap.size = x := ⟨_, rfl⟩
              have KB8 := hide hB
              rw [hB] at hN hs ⊢
              have NB8x12 := hide hN
              have SB8 := hide hs
              clear hN hu hs hB hzx11
              refine hK _ _ (.inr Vx12.out) ?_
              clear hK K
              try simp only [Act.put, zz1, zz2, zz3]
              refine wpAnyZ_one 12 (by kernel_rfl) rfl rfl (fun K hK => ?_)
              try simp only [List.getElem_toArray, List.getElem_cons_succ, List.getElem_cons_zero]
              try simp only [List.getElem_toArray, List.getElem_cons_succ, List.getElem_cons_zero]
              obtain ⟨z0, z1, z2, z3, z4, z5, zz⟩ := res_facts33 NB7x12.out
              have ZZ := hide zz
              clear zz
              go_simp
              obtain ⟨e1, e3⟩ := ZZ.out (.slice qo a'.m.length qc) (.slice mo a'.t.length mc) (.int .u64 (a'.n : Int))
              clear z0 z1 z2 z3 z4 z5 ZZ
              generalize (((x12.setCell ⟨B7, 0, none⟩ (.slice qo a'.m.length qc)).setCell ⟨B7, 1, none⟩ (.slice mo a'.t.length mc)).setCell ⟨B7, 2, none⟩ (.int .u64 (a'.n : Int))) = x13 at e1 e3 ⊢
              have g7 : w4.heap.size ≤ B7 := by have := KB7.out; have := Vw5.out.size; omega
              have Vx13 := hide (Vx12.out.trans_new e3 (fun k hk => .inr (by simp at hk; omega)))
              have Cx13 := hide ((Cx12.out.mono (by simp)).trans (e3.mono (by simp)) : Upd [B7] _ _)
              have NB7x13 := hide e1
              have Lx13 := hide e3.size
              have n78 : B8 ≠ B7 := by have := KB7.out; have := KB8.out; have := SB7.out; have := SB8.out; have := (SC.out); omega
              have NB8x13 := hide (e3.get NB8x12.out (by simpa using n78))
              clear n78
              clear e1 e3
              refine hK _ _ (.inr Vx13.out) ?_
              clear hK K
              try simp only [Act.put, zz1, zz2, zz3]
              refine wpAnyZ_one 13 (by kernel_rfl) rfl rfl (fun K hK => ?_)
              try simp only [List.getElem_toArray, List.getElem_cons_succ, List.getElem_cons_zero]
              try simp only [List.getElem_toArray, List.getElem_cons_succ, List.getElem_cons_zero]
              obtain ⟨z0, z1, f0, f1, z2, f2⟩ := res_facts NB8x13.out
              go_simp
              have e1 := stored2 (v0 := .int .u8 (r'.code : Int)) (v1 := .string (strOf r'.text)) NB8x13.out
              have e3 := upd2 x13 B8 (.int .u8 (r'.code : Int)) (.string (strOf r'.text))
              clear z0 z1 f0 f1 z2 f2
              generalize ((x13.setCell ⟨B8, 0, none⟩ (.int .u8 (r'.code : Int))).setCell ⟨B8, 1, none⟩ (.string (strOf r'.text))) = x14 at e1 e3 ⊢
              have g8 : w4.heap.size ≤ B8 := by have := KB8.out; have := Vx11.out.size; omega
              have n78 : B7 ≠ B8 := by have := KB7.out; have := KB8.out; have := SB7.out; have := SB8.out; have := (SC.out); have := (Lx13.out); omega
              have Vx14 := hide (Vx13.out.trans_new e3 (fun k hk => .inr (by simp at hk; omega)))
              have Cx14 := hide ((Cx13.out.mono (by simp)).trans (e3.mono (by simp)) : Upd [B7, B8] _ _)
              have NB8x14 := hide e1; have NB7x14 := hide (e3.get NB7x13.out (by simpa using n78))
              have Lx14 := hide e3.size
              clear e1 e3
              refine hK _ _ (.inr Vx14.out) ?_
              clear hK K
              try simp only [Act.put, zz1, zz2, zz3]
              refine wpAnyZ_one 14 (by kernel_rfl) rfl rfl (fun K hK => ?_)
              try simp only [List.getElem_toArray, List.getElem_cons_succ, List.getElem_cons_zero]
              go_simp
              refine hK _ _ (.inr Vx14.out) ?_
              clear hK K
              try simp only [Act.put, zz1, zz2, zz3]
              refine wpAnyZ_done (by kernel_rfl) ?_ _
              go_wp2_with fail
              go_meet
              have k7 := KB7.out; have k8 := KB8.out; have s7 := SB7.out; have s8 := SB8.out; have sc := SC.out; have vz := Vx14.out.size; have hp := Vx10.out.size
              have := SC.out
              have := Lx13.out
              have := Lx14.out
              exact Nexted.mk NB7x14.out NB8x14.out g7 g8 Vx14.out Cx14.out HQ.out HM.out HTP.out HTL.out Vx10.out.size (by omega) (by omega)
            · try simp only [List.getElem_toArray, List.getElem_cons_succ, List.getElem_cons_zero]
              go_simp
              have hN := blk_new x10 (.cells #[.int .u8 0, .string ⟨#[]⟩] TRp)
              have hu := (Upd.refl [] x10).alloc (.cells #[.int .u8 0, .string ⟨#[]⟩] TRp)
              have hs : (x10.alloc (.cells #[.int .u8 0, .string ⟨#[]⟩] TRp)).heap.size = x10.heap.size + 1 := by simp
              have hzx10 : w4.heap.size ≤ x10.heap.size := Vx10.out.size
              generalize x10.alloc (.cells #[.int .u8 0, .string ⟨#[]⟩] TRp) = x15 at *
              have Vx15 := hide (Vx10.out.trans hu)
              have NB7x15 := hide (hu.get NB7x10.out (by simp))
              obtain ⟨B8, hB⟩ : ∃ x, x10.heap.size = x := ⟨_, rfl⟩
              have KB8 := hide hB
              rw [hB] at hN hs ⊢
              have NB8x15 := hide hN
              have SB8 := hide hs
              clear hN hu hs hB hzx10
              refine hK _ _ (.inr Vx15.out) ?_
              clear hK K
              try simp only [Act.put, zz1, zz2, zz3]
              refine wpAnyZ_one 5 (by kernel_rfl) rfl rfl (fun K hK => ?_)
              try simp only [List.getElem_toArray, List.getElem_cons_succ, List.getElem_cons_zero]
              try simp only [List.getElem_toArray, List.getElem_cons_succ, List.getElem_cons_zero]
              go_simp
              have hda := radoP_any (c := c) (T' := T) (vc := cmv c (.slice ka c.keys.length kc)) x15 (pairK.row_upd_nil PR.out Vx15.out) (fun k hk => by have := HTP.out k hk; have := Vx15.out.size; omega) (laK.row_upd_nil LR.out Vx15.out) (HC.out.upd_nil Vx15.out) OK.out hi4
              simp only [cmv, strV] at hda
              rw [HD.out] at hda
              have HDA := hide hda
              clear hda
              refine HDA.out.mono ?_
              rintro e x16 ⟨⟨vq, vm, rfl, hq, hm⟩, hu⟩
              obtain ⟨qo, qc, rfl, -, -⟩ := Row.slice hq
              obtain ⟨mo, mc, rfl, -, -⟩ := Row.slice hm
              simp only at hq hm
              have Vx16 := hide (Vx15.out.trans hu)
              have Cx16 := hide (Upd.refl ([] : List Nat) x16)
              have HQ := hide hq; have HM := hide hm; have SC := hide hu.size
              have NB7x16 := hide (hu.get NB7x15.out (by simp))
              have NB8x16 := hide (hu.get NB8x15.out (by simp))
              clear hq hm hu HDA
              unfold rpv
              refine hK _ _ (.inr Vx16.out) ?_
              clear hK K
              try simp only [Act.put, zz1, zz2, zz3]
              refine zE 6 rfl (by kernel_rfl) (fun _ _ _ _ h => h) rfl (by exact Vx16.out) ?_
              apply Exists.intro
              refine ⟨fun wx hS => ?_, ?_⟩
              · go_simp; rfl
              simp only [Act.put, zz1, zz2, zz3, zz4, zz5, zz6]
              refine zE 7 rfl (by kernel_rfl) (fun _ _ _ _ h => h) rfl (by exact Vx16.out) ?_
              apply Exists.intro
              refine ⟨fun wx hS => ?_, ?_⟩
              · go_simp; rfl
              simp only [Act.put, zz1, zz2, zz3, zz4, zz5, zz6]
              refine zE 8 rfl (by kernel_rfl) (fun _ _ _ _ h => h) rfl (by exact Vx16.out) ?_
              apply Exists.intro
              refine ⟨fun wx hS => ?_, ?_⟩
              · go_simp; rfl
              simp only [Act.put, zz1, zz2, zz3, zz4, zz5, zz6]
              refine zE 9 rfl (by kernel_rfl) (fun _ _ _ _ h => h) rfl (by exact Vx16.out) ?_
              apply Exists.intro
              refine ⟨fun wx hS => ?_, ?_⟩
              · go_simp; rfl
              simp only [Act.put, zz1, zz2, zz3, zz4, zz5, zz6]
              refine wpAnyZ_one 12 (by kernel_rfl) rfl rfl (fun K hK => ?_)
              try simp only [List.getElem_toArray, List.getElem_cons_succ, List.getElem_cons_zero]
              try simp only [List.getElem_toArray, List.getElem_cons_succ, List.getElem_cons_zero]
              obtain ⟨z0, z1, z2, z3, z4, z5, zz⟩ := res_facts33 NB7x16.out
              have ZZ := hide zz
              clear zz
              go_simp
              obtain ⟨e1, e3⟩ := ZZ.out (.slice qo a'.m.length qc) (.slice mo a'.t.length mc) (.int .u64 (a'.n : Int))
              clear z0 z1 z2 z3 z4 z5 ZZ
              generalize (((x16.setCell ⟨B7, 0, none⟩ (.slice qo a'.m.length qc)).setCell ⟨B7, 1, none⟩ (.slice mo a'.t.length mc)).setCell ⟨B7, 2, none⟩ (.int .u64 (a'.n : Int))) = x17 at e1 e3 ⊢
              have g7 : w4.heap.size ≤ B7 := by have := KB7.out; have := Vw5.out.size; omega
              have Vx17 := hide (Vx16.out.trans_new e3 (fun k hk => .inr (by simp at hk; omega)))
              have Cx17 := hide ((Cx16.out.mono (by simp)).trans (e3.mono (by simp)) : Upd [B7] _ _)
              have NB7x17 := hide e1
              have Lx17 := hide e3.size
              have n78 : B8 ≠ B7 := by have := KB7.out; have := KB8.out; have := SB7.out; have := SB8.out; have := (SC.out); omega
              have NB8x17 := hide (e3.get NB8x16.out (by simpa using n78))
              clear n78
              clear e1 e3
              refine hK _ _ (.inr Vx17.out) ?_
              clear hK K
              try simp only [Act.put, zz1, zz2, zz3]
              refine wpAnyZ_one 13 (by kernel_rfl) rfl rfl (fun K hK => ?_)
              try simp only [List.getElem_toArray, List.getElem_cons_succ, List.getElem_cons_zero]
              try simp only [List.getElem_toArray, List.getElem_cons_succ, List.getElem_cons_zero]
              obtain ⟨z0, z1, f0, f1, z2, f2⟩ := res_facts NB8x17.out
              go_simp
              have e1 := stored2 (v0 := .int .u8 (r'.code : Int)) (v1 := .string (strOf r'.text)) NB8x17.out
              have e3 := upd2 x17 B8 (.int .u8 (r'.code : Int)) (.string (strOf r'.text))
              clear z0 z1 f0 f1 z2 f2
              generalize ((x17.setCell ⟨B8, 0, none⟩ (.int .u8 (r'.code : Int))).setCell ⟨B8, 1, none⟩ (.string (strOf r'.text))) = x18 at e1 e3 ⊢
              have g8 : w4.heap.size ≤ B8 := by have := KB8.out; have := Vx10.out.size; omega
              have n78 : B7 ≠ B8 := by have := KB7.out; have := KB8.out; have := SB7.out; have := SB8.out; have := (SC.out); have := (Lx17.out); omega
              have Vx18 := hide (Vx17.out.trans_new e3 (fun k hk => .inr (by simp at hk; omega)))
              have Cx18 := hide ((Cx17.out.mono (by simp)).trans (e3.mono (by simp)) : Upd [B7, B8] _ _)
              have NB8x18 := hide e1; have NB7x18 := hide (e3.get NB7x17.out (by simpa using n78))
              have Lx18 := hide e3.size
              clear e1 e3
              refine hK _ _ (.inr Vx18.out) ?_
              clear hK K
              try simp only [Act.put, zz1, zz2, zz3]
              refine wpAnyZ_one 14 (by kernel_rfl) rfl rfl (fun K hK => ?_)
              try simp only [List.getElem_toArray, List.getElem_cons_succ, List.getElem_cons_zero]
              go_simp
              refine hK _ _ (.inr Vx18.out) ?_
              clear hK K
              try simp only [Act.put, zz1, zz2, zz3]
              refine wpAnyZ_done (by kernel_rfl) ?_ _
              go_wp2_with fail
              go_meet
              have k7 := KB7.out; have k8 := KB8.out; have s7 := SB7.out; have s8 := SB8.out; have sc := SC.out; have vz := Vx18.out.size; have hp := Vx15.out.size
              have := SC.out
              have := Lx17.out
              have := Lx18.out
              exact Nexted.mk NB7x18.out NB8x18.out g7 g8 Vx18.out Cx18.out HQ.out HM.out HTP.out HTL.out Vx15.out.size (by omega) (by omega)
          · try simp only [List.getElem_toArray, List.getElem_cons_succ, List.getElem_cons_zero]
            go_simp
            have hN := blk_new w5 (.cells #[.int .u8 0, .string ⟨#[]⟩] TRp)
            have hu := (Upd.refl [] w5).alloc (.cells #[.int .u8 0, .string ⟨#[]⟩] TRp)
            have hs : (w5.alloc (.cells #[.int .u8 0, .string ⟨#[]⟩] TRp)).heap.size = w5.heap.size + 1 := by simp
            have hzw5 : w4.heap.size ≤ w5.heap.size := Vw5.out.size
            generalize w5.alloc (.cells #[.int .u8 0, .string ⟨#[]⟩] TRp) = x19 at *
            have Vx19 := hide (Vw5.out.trans hu)
            obtain ⟨B8, hB⟩ : ∃ x, w5.heap.size = x := ⟨_, rfl⟩
            have KB8 := hide hB
            rw [hB] at hN hs ⊢
            have NB8x19 := hide hN
            have SB8 := hide hs
            clear hN hu hs hB hzw5
            refine hK _ _ (.inr Vx19.out) ?_
            clear hK K
            try simp only [Act.put, zz1, zz2, zz3]
            refine wpAnyZ_two 5 10 (by kernel_rfl) rfl rfl rfl rfl (fun K hK => ?_) (fun K hK => ?_)
            · try simp only [List.getElem_toArray, List.getElem_cons_succ, List.getElem_cons_zero]
              go_simp
              have hda := radoP_any (c := c) (T' := T) (vc := cmv c (.slice ka c.keys.length kc)) x19 (pairK.row_upd_nil PR.out Vx19.out) (fun k hk => by have := HTP.out k hk; have := Vx19.out.size; omega) (laK.row_upd_nil LR.out Vx19.out) (HC.out.upd_nil Vx19.out) OK.out hi4
              simp only [cmv, strV] at hda
              rw [HD.out] at hda
              have HDA := hide hda
              clear hda
              refine HDA.out.mono ?_
              rintro e x20 ⟨⟨vq, vm, rfl, hq, hm⟩, hu⟩
              obtain ⟨qo, qc, rfl, -, -⟩ := Row.slice hq
              obtain ⟨mo, mc, rfl, -, -⟩ := Row.slice hm
              simp only at hq hm
              have Vx20 := hide (Vx19.out.trans hu)
              have Cx20 := hide (Upd.refl ([] : List Nat) x20)
              have HQ := hide hq; have HM := hide hm; have SC := hide hu.size
              have NB8x20 := hide (hu.get NB8x19.out (by simp))
              clear hq hm hu HDA
              unfold rpv
              refine hK _ _ (.inr Vx20.out) ?_
              clear hK K
              try simp only [Act.put, zz1, zz2, zz3]
              refine zE 6 rfl (by kernel_rfl) (fun _ _ _ _ h => h) rfl (by exact Vx20.out) ?_
              apply Exists.intro
              refine ⟨fun wx hS => ?_, ?_⟩
              · go_simp; rfl
              simp only [Act.put, zz1, zz2, zz3, zz4, zz5, zz6]
              refine zE 7 rfl (by kernel_rfl) (fun _ _ _ _ h => h) rfl (by exact Vx20.out) ?_
              apply Exists.intro
              refine ⟨fun wx hS => ?_, ?_⟩
              · go_simp; rfl
              simp only [Act.put, zz1, zz2, zz3, zz4, zz5, zz6]
              refine zE 8 rfl (by kernel_rfl) (fun _ _ _ _ h => h) rfl (by exact Vx20.out) ?_
              apply Exists.intro
              refine ⟨fun wx hS => ?_, ?_⟩
              · go_simp; rfl
              simp only [Act.put, zz1, zz2, zz3, zz4, zz5, zz6]
              refine zE 9 rfl (by kernel_rfl) (fun _ _ _ _ h => h) rfl (by exact Vx20.out) ?_
              apply Exists.intro
              refine ⟨fun wx hS => ?_, ?_⟩
              · go_simp; rfl
              simp only [Act.put, zz1, zz2, zz3, zz4, zz5, zz6]
              refine wpAnyZ_one 10 (by kernel_rfl) rfl rfl (fun K hK => ?_)
              try simp only [List.getElem_toArray, List.getElem_cons_succ, List.getElem_cons_zero]
              try simp only [List.getElem_toArray, List.getElem_cons_succ, List.getElem_cons_zero]
              go_simp
              have hN := blk_new x20 (.cells #[.slice none 0 0, .slice none 0 0, .int .u64 0] TRa)
              have hu := (Upd.refl [] x20).alloc (.cells #[.slice none 0 0, .slice none 0 0, .int .u64 0] TRa)
              have hs : (x20.alloc (.cells #[.slice none 0 0, .slice none 0 0, .int .u64 0] TRa)).heap.size = x20.heap.size + 1 := by simp
              have hzx20 : w4.heap.size ≤ x20.heap.size := Vx20.out.size
              generalize x20.alloc (.cells #[.slice none 0 0, .slice none 0 0, .int .u64 0] TRa) = x21 at *
              have Vx21 := hide (Vx20.out.trans hu)
              have Cx21 := hide (Cx20.out.trans (hu.mono (by simp)))
              have NB8x21 := hide (hu.get NB8x20.out (by simp))
              obtain ⟨B7, hB⟩ : ∃ x, x20.heap.size = x := ⟨_, rfl⟩
              have KB7 := hide hB
              rw [hB] at hN hs ⊢
              have NB7x21 := hide hN
              have SB7 := hide hs
              clear hN hu hs hB hzx20
              refine hK _ _ (.inr Vx21.out) ?_
              clear hK K
              try simp only [Act.put, zz1, zz2, zz3]
              refine wpAnyZ_one 12 (by kernel_rfl) rfl rfl (fun K hK => ?_)
              try simp only [List.getElem_toArray, List.getElem_cons_succ, List.getElem_cons_zero]
              try simp only [List.getElem_toArray, List.getElem_cons_succ, List.getElem_cons_zero]
              obtain ⟨z0, z1, z2, z3, z4, z5, zz⟩ := res_facts33 NB7x21.out
              have ZZ := hide zz
              clear zz
              go_simp
              obtain ⟨e1, e3⟩ := ZZ.out (.slice qo a'.m.length qc) (.slice mo a'.t.length mc) (.int .u64 (a'.n : Int))
              clear z0 z1 z2 z3 z4 z5 ZZ
              generalize (((x21.setCell ⟨B7, 0, none⟩ (.slice qo a'.m.length qc)).setCell ⟨B7, 1, none⟩ (.slice mo a'.t.length mc)).setCell ⟨B7, 2, none⟩ (.int .u64 (a'.n : Int))) = x22 at e1 e3 ⊢
              have g7 : w4.heap.size ≤ B7 := by have := KB7.out; have := Vx20.out.size; omega
              have Vx22 := hide (Vx21.out.trans_new e3 (fun k hk => .inr (by simp at hk; omega)))
              have Cx22 := hide ((Cx21.out.mono (by simp)).trans (e3.mono (by simp)) : Upd [B7] _ _)
              have NB7x22 := hide e1
              have Lx22 := hide e3.size
              have n78 : B8 ≠ B7 := by have := KB7.out; have := KB8.out; have := SB7.out; have := SB8.out; have := (SC.out); omega
              have NB8x22 := hide (e3.get NB8x21.out (by simpa using n78))
              clear n78
              clear e1 e3
              refine hK _ _ (.inr Vx22.out) ?_
              clear hK K
              try simp only [Act.put, zz1, zz2, zz3]
              refine wpAnyZ_one 13 (by kernel_rfl) rfl rfl (fun K hK => ?_)
              try simp only [List.getElem_toArray, List.getElem_cons_succ, List.getElem_cons_zero]
              try simp only [List.getElem_toArray, List.getElem_cons_succ, List.getElem_cons_zero]
              obtain ⟨z0, z1, f0, f1, z2, f2⟩ := res_facts NB8x22.out
              go_simp
              have e1 := stored2 (v0 := .int .u8 (r'.code : Int)) (v1 := .string (strOf r'.text)) NB8x22.out
              have e3 := upd2 x22 B8 (.int .u8 (r'.code : Int)) (.string (strOf r'.text))
              clear z0 z1 f0 f1 z2 f2
              generalize ((x22.setCell ⟨B8, 0, none⟩ (.int .u8 (r'.code : Int))).setCell ⟨B8, 1, none⟩ (.string (strOf r'.text))) = x23 at e1 e3 ⊢
              have g8 : w4.heap.size ≤ B8 := by have := KB8.out; have := Vw5.out.size; omega
              have n78 : B7 ≠ B8 := by have := KB7.out; have := KB8.out; have := SB7.out; have := SB8.out; have := (SC.out); have := (Lx22.out); omega
              have Vx23 := hide (Vx22.out.trans_new e3 (fun k hk => .inr (by simp at hk; omega)))
              have Cx23 := hide ((Cx22.out.mono (by simp)).trans (e3.mono (by simp)) : Upd [B7, B8] _ _)
              have NB8x23 := hide e1; have NB7x23 := hide (e3.get NB7x22.out (by simpa using n78))
              have Lx23 := hide e3.size
              clear e1 e3
              refine hK _ _ (.inr Vx23.out) ?_
              clear hK K
              try simp only [Act.put, zz1, zz2, zz3]
              refine wpAnyZ_one 14 (by kernel_rfl) rfl rfl (fun K hK => ?_)
              try simp only [List.getElem_toArray, List.getElem_cons_succ, List.getElem_cons_zero]
              go_simp
              refine hK _ _ (.inr Vx23.out) ?_
              clear hK K
              try simp only [Act.put, zz1, zz2, zz3]
              refine wpAnyZ_done (by kernel_rfl) ?_ _
              go_wp2_with fail
              go_meet
              have k7 := KB7.out; have k8 := KB8.out; have s7 := SB7.out; have s8 := SB8.out; have sc := SC.out; have vz := Vx23.out.size; have hp := Vx19.out.size
              have := SC.out
              have := Lx22.out
              have := Lx23.out
              exact Nexted.mk NB7x23.out NB8x23.out g7 g8 Vx23.out Cx23.out HQ.out HM.out HTP.out HTL.out Vx19.out.size (by omega) (by omega)
            · try simp only [List.getElem_toArray, List.getElem_cons_succ, List.getElem_cons_zero]
              go_simp
              have hN := blk_new x19 (.cells #[.slice none 0 0, .slice none 0 0, .int .u64 0] TRa)
              have hu := (Upd.refl [] x19).alloc (.cells #[.slice none 0 0, .slice none 0 0, .int .u64 0] TRa)
              have hs : (x19.alloc (.cells #[.slice none 0 0, .slice none 0 0, .int .u64 0] TRa)).heap.size = x19.heap.size + 1 := by simp
              have hzx19 : w4.heap.size ≤ x19.heap.size := Vx19.out.size
              generalize x19.alloc (.cells #[.slice none 0 0, .slice none 0 0, .int .u64 0] TRa) = x24 at *
              have Vx24 := hide (Vx19.out.trans hu)
              have NB8x24 := hide (hu.get NB8x19.out (by simp))
              obtain ⟨B7, hB⟩ : ∃ x, x19.heap.size = x := ⟨_, rfl⟩
              have KB7 := hide hB
              rw [hB] at hN hs ⊢
              have NB7x24 := hide hN
              have SB7 := hide hs
              clear hN hu hs hB hzx19
              refine hK _ _ (.inr Vx24.out) ?_
              clear hK K
              try simp only [Act.put, zz1, zz2, zz3]
              refine wpAnyZ_one 5 (by kernel_rfl) rfl rfl (fun K hK => ?_)
              try simp only [List.getElem_toArray, List.getElem_cons_succ, List.getElem_cons_zero]
              try simp only [List.getElem_toArray, List.getElem_cons_succ, List.getElem_cons_zero]
              go_simp
              have hda := radoP_any (c := c) (T' := T) (vc := cmv c (.slice ka c.keys.length kc)) x24 (pairK.row_upd_nil PR.out Vx24.out) (fun k hk => by have := HTP.out k hk; have := Vx24.out.size; omega) (laK.row_upd_nil LR.out Vx24.out) (HC.out.upd_nil Vx24.out) OK.out hi4
              simp only [cmv, strV] at hda
              rw [HD.out] at hda
              have HDA := hide hda
              clear hda
              refine HDA.out.mono ?_
              rintro e x25 ⟨⟨vq, vm, rfl, hq, hm⟩, hu⟩
              obtain ⟨qo, qc, rfl, -, -⟩ := Row.slice hq
              obtain ⟨mo, mc, rfl, -, -⟩ := Row.slice hm
              simp only at hq hm
              have Vx25 := hide (Vx24.out.trans hu)
              have Cx25 := hide (Upd.refl ([] : List Nat) x25)
              have HQ := hide hq; have HM := hide hm; have SC := hide hu.size
              have NB7x25 := hide (hu.get NB7x24.out (by simp))
              have NB8x25 := hide (hu.get NB8x24.out (by simp))
              clear hq hm hu HDA
              unfold rpv
              refine hK _ _ (.inr Vx25.out) ?_
              clear hK K
              try simp only [Act.put, zz1, zz2, zz3]
              refine zE 6 rfl (by kernel_rfl) (fun _ _ _ _ h => h) rfl (by exact Vx25.out) ?_
              apply Exists.intro
              refine ⟨fun wx hS => ?_, ?_⟩
              · go_simp; rfl
              simp only [Act.put, zz1, zz2, zz3, zz4, zz5, zz6]
              refine zE 7 rfl (by kernel_rfl) (fun _ _ _ _ h => h) rfl (by exact Vx25.out) ?_
              apply Exists.intro
              refine ⟨fun wx hS => ?_, ?_⟩
              · go_simp; rfl
              simp only [Act.put, zz1, zz2, zz3, zz4, zz5, zz6]
              refine zE 8 rfl (by kernel_rfl) (fun _ _ _ _ h => h) rfl (by exact Vx25.out) ?_
              apply Exists.intro
              refine ⟨fun wx hS => ?_, ?_⟩
              · go_simp; rfl
              simp only [Act.put, zz1, zz2, zz3, zz4, zz5, zz6]
              refine zE 9 rfl (by kernel_rfl) (fun _ _ _ _ h => h) rfl (by exact Vx25.out) ?_
              apply Exists.intro
              refine ⟨fun wx hS => ?_, ?_⟩
              · go_simp; rfl
              simp only [Act.put, zz1, zz2, zz3, zz4, zz5, zz6]
              refine wpAnyZ_one 12 (by kernel_rfl) rfl rfl (fun K hK => ?_)
              try simp only [List.getElem_toArray, List.getElem_cons_succ, List.getElem_cons_zero]
              try simp only [List.getElem_toArray, List.getElem_cons_succ, List.getElem_cons_zero]
              obtain ⟨z0, z1, z2, z3, z4, z5, zz⟩ := res_facts33 NB7x25.out
              have ZZ := hide zz
              clear zz
              go_simp
              obtain ⟨e1, e3⟩ := ZZ.out (.slice qo a'.m.length qc) (.slice mo a'.t.length mc) (.int .u64 (a'.n : Int))
              clear z0 z1 z2 z3 z4 z5 ZZ
              generalize (((x25.setCell ⟨B7, 0, none⟩ (.slice qo a'.m.length qc)).setCell ⟨B7, 1, none⟩ (.slice mo a'.t.length mc)).setCell ⟨B7, 2, none⟩ (.int .u64 (a'.n : Int))) = x26 at e1 e3 ⊢
              have g7 : w4.heap.size ≤ B7 := by have := KB7.out; have := Vx19.out.size; omega
              have Vx26 := hide (Vx25.out.trans_new e3 (fun k hk => .inr (by simp at hk; omega)))
              have Cx26 := hide ((Cx25.out.mono (by simp)).trans (e3.mono (by simp)) : Upd [B7] _ _)
              have NB7x26 := hide e1
              have Lx26 := hide e3.size
              have n78 : B8 ≠ B7 := by have := KB7.out; have := KB8.out; have := SB7.out; have := SB8.out; have := (SC.out); omega
              have NB8x26 := hide (e3.get NB8x25.out (by simpa using n78))
              clear n78
              clear e1 e3
              refine hK _ _ (.inr Vx26.out) ?_
              clear hK K
              try simp only [Act.put, zz1, zz2, zz3]
              refine wpAnyZ_one 13 (by kernel_rfl) rfl rfl (fun K hK => ?_)
              try simp only [List.getElem_toArray, List.getElem_cons_succ, List.getElem_cons_zero]
              try simp only [List.getElem_toArray, List.getElem_cons_succ, List.getElem_cons_zero]
              obtain ⟨z0, z1, f0, f1, z2, f2⟩ := res_facts NB8x26.out
              go_simp
              have e1 := stored2 (v0 := .int .u8 (r'.code : Int)) (v1 := .string (strOf r'.text)) NB8x26.out
              have e3 := upd2 x26 B8 (.int .u8 (r'.code : Int)) (.string (strOf r'.text))
              clear z0 z1 f0 f1 z2 f2
              generalize ((x26.setCell ⟨B8, 0, none⟩ (.int .u8 (r'.code : Int))).setCell ⟨B8, 1, none⟩ (.string (strOf r'.text))) = x27 at e1 e3 ⊢
              have g8 : w4.heap.size ≤ B8 := by have := KB8.out; have := Vw5.out.size; omega
              have n78 : B7 ≠ B8 := by have := KB7.out; have := KB8.out; have := SB7.out; have := SB8.out; have := (SC.out); have := (Lx26.out); omega
              have Vx27 := hide (Vx26.out.trans_new e3 (fun k hk => .inr (by simp at hk; omega)))
              have Cx27 := hide ((Cx26.out.mono (by simp)).trans (e3.mono (by simp)) : Upd [B7, B8] _ _)
              have NB8x27 := hide e1; have NB7x27 := hide (e3.get NB7x26.out (by simpa using n78))
              have Lx27 := hide e3.size
              clear e1 e3
              refine hK _ _ (.inr Vx27.out) ?_
              clear hK K
              try simp only [Act.put, zz1, zz2, zz3]
              refine wpAnyZ_one 14 (by kernel_rfl) rfl rfl (fun K hK => ?_)
              try simp only [List.getElem_toArray, List.getElem_cons_succ, List.getElem_cons_zero]
              go_simp
              refine hK _ _ (.inr Vx27.out) ?_
              clear hK K
              try simp only [Act.put, zz1, zz2, zz3]
              refine wpAnyZ_done (by kernel_rfl) ?_ _
              go_wp2_with fail
              go_meet
              have k7 := KB7.out; have k8 := KB8.out; have s7 := SB7.out; have s8 := SB8.out; have sc := SC.out; have vz := Vx27.out.size; have hp := Vx24.out.size
              have := SC.out
              have := Lx26.out
              have := Lx27.out
              exact Nexted.mk NB7x27.out NB8x27.out g7 g8 Vx27.out Cx27.out HQ.out HM.out HTP.out HTL.out Vx24.out.size (by omega) (by omega)
        case rest =>
        obtain ⟨B7, B8, vp', vl', rfl, rfl, rfl, h7, h8, g7, g8, hu5, hp5, hl5⟩ := hcut
        obtain ⟨po', pc', rfl, -, -⟩ := Row.slice hp5
        obtain ⟨mo', mc', rfl, -, -⟩ := Row.slice hl5
        have P5 := hide (P4.out.upd_nil hu5); have Q5 := hide (Q4.out.upd_nil hu5); have X7 := hide h7; have X8 := hide h8; have PR5 := hide hp5; have LR5 := hide hl5
        have l7 := blk_lt h7; have l8 := blk_lt h8; have hz5 := hu5.size
        obtain ⟨c0, c1, c2, c3, c4, c5, c6⟩ := CC4.out wc hu5
        have KSc := hide (KS.out.upd_nil P5.out.upd)
        clear h7 h8 hu5 hp5 hl5 P4 Q4 BB PR LR HTP HC
        go_wp2_with fail
        refine (wstep HD.out wc (ENV.out.upd_nil P5.out.upd) P5.out.ap OK.out (by omega) (T := T) (v := cmv c (.slice ka c.keys.length kc)) ⟨FIT.out, _, rfl, KSc.out⟩).mono ?_
        rintro e w6 ⟨rfl, ha6, ht6⟩
        have hl4 := HTL.out
        have A6 := hide ha6; have T6 := hide ht6
        have hz6 := ht6.size
        clear ha6 ht6 c0 c1 c2 c3 c4 c5 c6 KSc HTL
        unfold rpv
        go_upto_region 11 with fail
        have hb7 := blk_new w6 (.cells #[.int .u8 (r'.code : Int), .string (strOf r'.text)] TRp)
        have hu7 := (Upd.refl [] w6).alloc (.cells #[.int .u8 (r'.code : Int), .string (strOf r'.text)] TRp)
        change Code.wp _ _ _ _ (w6.alloc (.cells #[.int .u8 (r'.code : Int), .string (strOf r'.text)] TRp))
        generalize w6.alloc (.cells #[.int .u8 (r'.code : Int), .string (strOf r'.text)] TRp) = w7 at *
        obtain ⟨B9, hB9⟩ : ∃ x, w6.heap.size = x := ⟨_, rfl⟩
        rw [hB9] at hb7 ⊢
        have T7 := hide (T6.out.trans (Turned.of_nil hu7 lo B))
        obtain ⟨ST, hST, hUT⟩ := T7.out
        have nST : ∀ k, B ≤ k → k ∉ ST := fun k hk hm => by have := hST k hm; omega
        have nG : ∀ k ∈ ST, ¬ since G wc k := fun k hk hs => by have := hST k hk; have := hs.1; omega
        have BB7 := hide (hUT.get P5.out.blk (nST B (Nat.le_refl _)))
        have X77 := hide (hUT.get X7.out (nST B7 (by omega))); have X87 := hide (hUT.get X8.out (nST B8 (by omega)))
        have PA7 := hide (pairK.row_mono (pairK.row_upd P5.out.prs hUT nG) (since_mono hUT.size)); have LA7 := hide (laK.row_mono (laK.row_upd P5.out.las hUT nG) (since_mono hUT.size))
        have PB7 := hide (pairK.row_mono (pairK.row_upd PR5.out hUT nG) (since_mono hUT.size)); have LB7 := hide (laK.row_mono (laK.row_upd LR5.out hUT nG) (since_mono hUT.size))
        have A7 := hide (A6.out.upd_nil hu7); have Q7 := hide (Q5.out.keep T7.out (.inr (by omega)))
        have X97 := hide hb7; have U7 := hide (T7.out.upd_new P5.out.upd hlw)
        have hz7 := hUT.size
        clear hb7 hu7 hUT hST nST nG hB9 T6 T7 A6 X7 X8 PR5 LR5 P5 Q5
        refine wp_region_z (fun wx => Upd [] w7 wx) 99 (by kernel_rfl) ?_
        have s0 : Upd [] w7 (w7.drewN 1) := (Upd.refl _ _).drewN 1
        refine zE 0 rfl (by kernel_rfl) (fun _ _ _ _ h => h) rfl (by exact s0) ?_
        apply Exists.intro
        refine ⟨fun wx hS => ?_, ?_⟩
        · obtain ⟨x0, x1⟩ := cell2 (hS.get X97.out (by simp)); go_simp; rfl
        simp only [Act.put, List.setIfInBounds_toArray, List.set_cons_succ, List.set_cons_zero, List.getElem_toArray, List.getElem_cons_zero]
        refine zE 1 rfl (by kernel_rfl) (fun _ _ _ _ h => h) rfl (by exact s0) ?_
        apply Exists.intro
        refine ⟨fun wx hS => ?_, ?_⟩
        · obtain ⟨x0, x1⟩ := cell2 (hS.get X87.out (by simp)); go_simp; rfl
        simp only [Act.put, zz1, zz2, zz3, zz4, zz5, zz6]
        refine zE 2 rfl (by kernel_rfl) (fun _ _ _ _ h => h) rfl (by exact s0) ?_
        apply Exists.intro
        refine ⟨fun wx hS => ?_, ?_⟩
        · have q1 := neq_rp r' r' wx ; rw [decide_eq_true rfl] at q1; go_simp; rfl
        simp only [Act.put, zz1, zz2, zz3, zz4, zz5, zz6]
        refine zE 3 rfl (by kernel_rfl) (fun _ _ _ _ h => h) rfl (by exact s0) ?_
        apply Exists.intro
        refine ⟨fun wx hS => ?_, ?_⟩
        · go_simp; rfl
        simp only [Act.put, zz1, zz2, zz3, zz4, zz5, zz6]
        refine zE 4 rfl (by kernel_rfl) (fun _ _ _ _ h => h) rfl (by exact s0) ?_
        apply Exists.intro
        refine ⟨fun wx hS => ?_, ?_⟩
        · go_simp; rfl
        simp only [Act.put, zz1, zz2, zz3, zz4, zz5, zz6]
        refine zE 5 rfl (by kernel_rfl) (fun _ _ _ _ h => h) rfl (by exact s0) ?_
        apply Exists.intro
        refine ⟨fun wx hS => ?_, ?_⟩
        · go_simp; rfl
        simp only [Act.put, zz1, zz2, zz3, zz4, zz5, zz6]
        refine zE 6 rfl (by kernel_rfl) (fun _ _ _ _ h => h) rfl (by exact s0) ?_
        apply Exists.intro
        refine ⟨fun wx hS => ?_, ?_⟩
        · have q1 := b_self f' ; have q2 := b_ne f'; go_simp; rfl
        simp only [Act.put, zz1, zz2, zz3, zz4, zz5, zz6]
        refine zE 7 rfl (by kernel_rfl) (fun _ _ _ _ h => h) rfl (by exact s0) ?_
        apply Exists.intro
        refine ⟨fun wx hS => ?_, ?_⟩
        · go_simp; rfl
        simp only [Act.put, zz1, zz2, zz3, zz4, zz5, zz6]
        refine zE 8 rfl (by kernel_rfl) (fun _ _ _ _ h => h) rfl (by exact s0) ?_
        apply Exists.intro
        refine ⟨fun wx hS => ?_, ?_⟩
        · go_simp; rfl
        simp only [Act.put, zz1, zz2, zz3, zz4, zz5, zz6]
        refine zE 9 rfl (by kernel_rfl) (fun _ _ _ _ h => h) rfl (by exact s0) ?_
        apply Exists.intro
        refine ⟨fun wx hS => ?_, ?_⟩
        · go_simp; rfl
        simp only [Act.put, zz1, zz2, zz3, zz4, zz5, zz6]
        refine zE 11 rfl (by kernel_rfl) (fun _ _ _ _ h => h) rfl (by exact s0) ?_
        apply Exists.intro
        refine ⟨fun wx hS => ?_, ?_⟩
        · go_simp; rfl
        simp only [Act.put, zz1, zz2, zz3, zz4, zz5, zz6]
        refine zE 12 rfl (by kernel_rfl) (fun _ _ _ _ h => h) rfl (by exact s0) ?_
        apply Exists.intro
        refine ⟨fun wx hS => ?_, ?_⟩
        · obtain ⟨x0, x1, x2⟩ := cell3 (hS.get X77.out (by simp)); go_simp; rfl
        simp only [Act.put, zz1, zz2, zz3, zz4, zz5, zz6]
        refine wpAnyZ_one 10 (by kernel_rfl) rfl rfl (fun K hK => ?_)
        try simp only [List.getElem_toArray, List.getElem_cons_succ, List.getElem_cons_zero]
        go_simp
        refine (acount_any (w7.drewN 1) (A7.out.upd_nil s0)).mono ?_
        rintro e w8 ⟨rfl, rfl⟩
        refine hK _ _ (.inr s0) ?_
        clear hK K
        try simp only [Act.put, zz1, zz2, zz3]
        refine zE 13 rfl (by kernel_rfl) (fun _ _ _ _ h => h) rfl (by exact s0) ?_
        apply Exists.intro
        refine ⟨fun wx hS => ?_, ?_⟩
        · go_simp; rfl
        simp only [Act.put, zz1, zz2, zz3, zz4, zz5, zz6]
        refine zE 14 rfl (by kernel_rfl) (fun _ _ _ _ h => h) rfl (by exact s0) ?_
        apply Exists.intro
        refine ⟨fun wx hS => ?_, ?_⟩
        · go_simp; rfl
        simp only [Act.put, zz1, zz2, zz3, zz4, zz5, zz6]
        refine zE 15 rfl (by kernel_rfl) (fun _ _ _ _ h => h) rfl (by exact s0) ?_
        apply Exists.intro
        refine ⟨fun wx hS => ?_, ?_⟩
        · go_simp; rfl
        simp only [Act.put, zz1, zz2, zz3, zz4, zz5, zz6]
        refine zE 16 rfl (by kernel_rfl) (fun _ _ _ _ h => h) rfl (by exact s0) ?_
        apply Exists.intro
        refine ⟨fun wx hS => ?_, ?_⟩
        · go_simp; rfl
        simp only [Act.put, zz1, zz2, zz3, zz4, zz5, zz6]
        refine zE 19 rfl (by kernel_rfl) (fun _ _ _ _ h => h) rfl (by exact s0) ?_
        apply Exists.intro
        refine ⟨fun wx hS => ?_, ?_⟩
        · obtain ⟨x0, x1, x2⟩ := cell3 (hS.get BB7.out (by simp)); go_simp; rfl
        simp only [Act.put, zz1, zz2, zz3, zz4, zz5, zz6]
        refine wpAnyZ_one 17 (by kernel_rfl) rfl rfl (fun K hK => ?_)
        try simp only [List.getElem_toArray, List.getElem_cons_succ, List.getElem_cons_zero]
        go_simp
        refine (abytes_any (w7.drewN 1) (Q7.out.upd_nil s0) (OK.out.w (by omega))).mono ?_
        obtain ⟨K1, hK1⟩ : ∃ x, apB a = x := ⟨_, rfl⟩
        rw [hK1]
        have HK1 := hide hK1
        clear hK1
        rintro e w8 ⟨v8, rfl, o8, hu8⟩
        obtain ⟨a8, c8, rfl, -, -, -⟩ := owns_slice o8
        have s8 := s0.trans hu8
        have O8 := hide o8
        clear o8 hu8
        refine hK _ _ (.inr s8) ?_
        clear hK K
        try simp only [Act.put, zz1, zz2, zz3]
        clear s0
        refine wpAnyZ_strong (S' := fun wx => Upd [] w8 wx) (fun wx h => s8.trans h) _ _ _ _ ?_
        have t0 : Upd [] w8 w8 := Upd.refl _ _
        refine zE 18 rfl (by kernel_rfl) (fun _ _ _ _ h => h) rfl (by exact t0) ?_
        apply Exists.intro
        refine ⟨fun wx hS => ?_, ?_⟩
        · have hq := run_str (src_own (owns_upd O8.out hS (by simp)) (by simp [u8v, Value.oneCell'])); go_simp; rfl
        simp only [Act.put, zz1, zz2, zz3, zz4, zz5, zz6]
        refine wpAnyZ_one 20 (by kernel_rfl) rfl rfl (fun K hK => ?_)
        try simp only [List.getElem_toArray, List.getElem_cons_succ, List.getElem_cons_zero]
        go_simp
        refine (rabytes_any w8 (pairK.row_upd_nil PA7.out s8) (laK.row_upd_nil LA7.out s8) (OK.out.w (by omega)) (by have := OK.out.len; omega)).mono ?_
        rw [HK1.out]
        rintro e w9 ⟨v9, rfl, o9, hu9⟩
        obtain ⟨a9, c9, rfl, -, -, -⟩ := owns_slice o9
        have s9 := s8.trans hu9
        have O9 := hide o9
        clear o9
        refine hK _ _ (.inr hu9) ?_
        clear hK K
        try simp only [Act.put, zz1, zz2, zz3]
        refine wpAnyZ_strong (S' := fun wx => Upd [] w9 wx) (fun wx h => hu9.trans h) _ _ _ _ ?_
        clear t0
        have t0 : Upd [] w9 w9 := Upd.refl _ _
        refine zE 21 rfl (by kernel_rfl) (fun _ _ _ _ h => h) rfl (by exact t0) ?_
        apply Exists.intro
        refine ⟨fun wx hS => ?_, ?_⟩
        · have hq := run_str (src_own (owns_upd O9.out hS (by simp)) (by simp [u8v, Value.oneCell'])); go_simp; rfl
        simp only [Act.put, zz1, zz2, zz3, zz4, zz5, zz6]
        refine zE 22 rfl (by kernel_rfl) (fun _ _ _ _ h => h) rfl (by exact t0) ?_
        apply Exists.intro
        refine ⟨fun wx hS => ?_, ?_⟩
        · have hq : ((strOf K1).toList == (strOf K1).toList) = true := (by simp); go_simp; rfl
        simp only [Act.put, zz1, zz2, zz3, zz4, zz5, zz6]
        refine zE 23 rfl (by kernel_rfl) (fun _ _ _ _ h => h) rfl (by exact t0) ?_
        apply Exists.intro
        refine ⟨fun wx hS => ?_, ?_⟩
        · go_simp; rfl
        simp only [Act.put, zz1, zz2, zz3, zz4, zz5, zz6]
        refine zE 24 rfl (by kernel_rfl) (fun _ _ _ _ h => h) rfl (by exact t0) ?_
        apply Exists.intro
        refine ⟨fun wx hS => ?_, ?_⟩
        · go_simp; rfl
        simp only [Act.put, zz1, zz2, zz3, zz4, zz5, zz6]
        refine zE 25 rfl (by kernel_rfl) (fun _ _ _ _ h => h) rfl (by exact t0) ?_
        apply Exists.intro
        refine ⟨fun wx hS => ?_, ?_⟩
        · go_simp; rfl
        simp only [Act.put, zz1, zz2, zz3, zz4, zz5, zz6]
        refine zE 28 rfl (by kernel_rfl) (fun _ _ _ _ h => h) rfl (by exact t0) ?_
        apply Exists.intro
        refine ⟨fun wx hS => ?_, ?_⟩
        · obtain ⟨x0, x1, x2⟩ := cell3 ((s9.trans hS).get X77.out (by simp)); go_simp; rfl
        simp only [Act.put, zz1, zz2, zz3, zz4, zz5, zz6]
        refine wpAnyZ_one 26 (by kernel_rfl) rfl rfl (fun K hK => ?_)
        try simp only [List.getElem_toArray, List.getElem_cons_succ, List.getElem_cons_zero]
        go_simp
        refine (abytes_any w9 (A7.out.upd_nil s9) (OK'.out.w (by omega))).mono ?_
        obtain ⟨K2, hK2⟩ : ∃ x, apB a' = x := ⟨_, rfl⟩
        rw [hK2]
        have HK2 := hide hK2
        clear hK2
        rintro e w10 ⟨v10, rfl, o10, hu10⟩
        obtain ⟨a10, c10, rfl, -, -, -⟩ := owns_slice o10
        have s10 := s9.trans hu10
        have O10 := hide o10
        clear o10
        refine hK _ _ (.inr hu10) ?_
        clear hK K
        try simp only [Act.put, zz1, zz2, zz3]
        refine wpAnyZ_strong (S' := fun wx => Upd [] w10 wx) (fun wx h => hu10.trans h) _ _ _ _ ?_
        clear t0
        have t0 : Upd [] w10 w10 := Upd.refl _ _
        refine zE 27 rfl (by kernel_rfl) (fun _ _ _ _ h => h) rfl (by exact t0) ?_
        apply Exists.intro
        refine ⟨fun wx hS => ?_, ?_⟩
        · have hq := run_str (src_own (owns_upd O10.out hS (by simp)) (by simp [u8v, Value.oneCell'])); go_simp; rfl
        simp only [Act.put, zz1, zz2, zz3, zz4, zz5, zz6]
        refine wpAnyZ_one 29 (by kernel_rfl) rfl rfl (fun K hK => ?_)
        try simp only [List.getElem_toArray, List.getElem_cons_succ, List.getElem_cons_zero]
        go_simp
        refine (rabytes_any w10 (pairK.row_upd_nil PB7.out s10) (laK.row_upd_nil LB7.out s10) (OK'.out.w (by omega)) (by have := OK'.out.len; omega)).mono ?_
        rw [HK2.out]
        rintro e w11 ⟨v11, rfl, o11, hu11⟩
        obtain ⟨a11, c11, rfl, -, -, -⟩ := owns_slice o11
        have s11 := s10.trans hu11
        have O11 := hide o11
        clear o11
        refine hK _ _ (.inr hu11) ?_
        clear hK K
        try simp only [Act.put, zz1, zz2, zz3]
        refine wpAnyZ_strong (S' := fun wx => Upd [] w11 wx) (fun wx h => hu11.trans h) _ _ _ _ ?_
        clear t0
        have t0 : Upd [] w11 w11 := Upd.refl _ _
        refine zE 30 rfl (by kernel_rfl) (fun _ _ _ _ h => h) rfl (by exact t0) ?_
        apply Exists.intro
        refine ⟨fun wx hS => ?_, ?_⟩
        · have hq := run_str (src_own (owns_upd O11.out hS (by simp)) (by simp [u8v, Value.oneCell'])); go_simp; rfl
        simp only [Act.put, zz1, zz2, zz3, zz4, zz5, zz6]
        refine zE 31 rfl (by kernel_rfl) (fun _ _ _ _ h => h) rfl (by exact t0) ?_
        apply Exists.intro
        refine ⟨fun wx hS => ?_, ?_⟩
        · have hq : ((strOf K2).toList == (strOf K2).toList) = true := (by simp); go_simp; rfl
        simp only [Act.put, zz1, zz2, zz3, zz4, zz5, zz6]
        refine zE 32 rfl (by kernel_rfl) (fun _ _ _ _ h => h) rfl (by exact t0) ?_
        apply Exists.intro
        refine ⟨fun wx hS => ?_, ?_⟩
        · go_simp; rfl
        simp only [Act.put, zz1, zz2, zz3, zz4, zz5, zz6]
        refine zE 33 rfl (by kernel_rfl) (fun _ _ _ _ h => h) rfl (by exact t0) ?_
        apply Exists.intro
        refine ⟨fun wx hS => ?_, ?_⟩
        · go_simp; rfl
        simp only [Act.put, zz1, zz2, zz3, zz4, zz5, zz6]
        refine zE 34 rfl (by kernel_rfl) (fun _ _ _ _ h => h) rfl (by exact t0) ?_
        apply Exists.intro
        refine ⟨fun wx hS => ?_, ?_⟩
        · go_simp; rfl
        simp only [Act.put, zz1, zz2, zz3, zz4, zz5, zz6]
        refine zE 35 rfl (by kernel_rfl) (fun _ _ _ _ h => h) rfl (by exact t0) ?_
        apply Exists.intro
        refine ⟨fun wx hS => ?_, ?_⟩
        · go_simp; rfl
        simp only [Act.put, zz1, zz2, zz3, zz4, zz5, zz6]
        refine zE 37 rfl (by kernel_rfl) (fun _ _ _ _ h => h) rfl (by exact t0) ?_
        apply Exists.intro
        refine ⟨fun wx hS => ?_, ?_⟩
        · go_simp; rfl
        simp only [Act.put, zz1, zz2, zz3, zz4, zz5, zz6]
        refine wpAnyZ_one 36 (by kernel_rfl) rfl rfl (fun K hK => ?_)
        try simp only [List.getElem_toArray, List.getElem_cons_succ, List.getElem_cons_zero]
        go_simp
        refine (asamef_any HD.out w11 (Q7.out.upd_nil s11) (A7.out.upd_nil s11) OK.out OK'.out (by omega)).mono ?_
        rintro e w12 ⟨rfl, hu12⟩
        have s12 := s11.trans hu12
        refine hK _ _ (.inr hu12) ?_
        clear hK K
        try simp only [Act.put, zz1, zz2, zz3]
        refine zE 38 rfl (by kernel_rfl) (fun _ _ _ _ h => h) rfl (by exact hu12) ?_
        apply Exists.intro
        refine ⟨fun wx hS => ?_, ?_⟩
        · have q1 := b_not f'; go_simp; rfl
        simp only [Act.put, zz1, zz2, zz3, zz4, zz5, zz6]
        refine zE 39 rfl (by kernel_rfl) (fun _ _ _ _ h => h) rfl (by exact hu12) ?_
        apply Exists.intro
        refine ⟨fun wx hS => ?_, ?_⟩
        · go_simp; rfl
        simp only [Act.put, zz1, zz2, zz3, zz4, zz5, zz6]
        refine wpAnyZ_done (by kernel_rfl) ?_ _
        have S12 := hide s12
        clear t0 s8 s9 s10 s11 s12 hu9 hu10 hu11 hu12 O8 O9 O10 O11 HK1 HK2
        obtain ⟨y0, y1, y2⟩ := cell3 (S12.out.get X77.out (by simp))
        obtain ⟨z0, z1, z2, z3, z4, z5, zz⟩ := res_facts33 (S12.out.get BB7.out (by simp))
        have ZZ := hide zz
        clear zz
        go_wp2_with fail
        go_roundw
        case rel =>
          obtain ⟨e1, e3⟩ := ZZ.out (.slice po' a'.m.length pc') (.slice mo' a'.t.length mc') (.int .u64 (a'.n : Int))
          have hsz := e3.size
          have hs12 := S12.out.size
          have nG : ∀ k ∈ [B], ¬ since G w12 k := fun k hk hs => by simp at hk; have := hs.1; omega
          exact ⟨i + 1, a', _, _, by omega, by go_num, NX.out.symm, (A7.out.upd_nil S12.out).keep (show Turned B (B + 1) _ _ from ⟨[B], by simp, e3⟩) (.inl (Nat.le_refl B)), e1,
            pairK.row_mono (pairK.row_upd (pairK.row_mono (pairK.row_upd_nil PB7.out S12.out) (since_mono S12.out.size)) e3 nG) (since_mono e3.size), laK.row_mono (laK.row_upd (laK.row_mono (laK.row_upd_nil LB7.out S12.out) (since_mono S12.out.size)) e3 nG) (since_mono e3.size),
            (U7.out.trans S12.out).trans_new e3 (fun k hk => .inr (by simp at hk; omega)), by omega⟩
        case measure => simp [RowKit.intOf]; omega
      · have d5 : decide ((i : Int) < l.length) = false := by simp; omega
        have d5' : decide (i < l.length) = false := by simpa using hlt
        have hie : i = l.length := by omega
        have hfa : foldA l = a := by rw [HA.out, hie, List.take_length]
        have HFA := hide hfa; have HOF := hide (ofM_fwd OK.out (by omega) AG.out.ne AG.out.pos)
        clear hlt hfa hie
        go_wp2_with fail
        refine (astate_any wr P.out.ap OK.out (by omega)).mono ?_
        rintro e w4 ⟨⟨b4, g4, rfl, hs4, hb4, hg4⟩, hu4⟩
        have P4 := hide (P.out.upd_nil hu4); have S4 := hide hs4
        have hz4 := hu4.size
        have hK := blk_new w4 (.cells #[.string ⟨#[110, 111, 32, 115, 117, 99, 104, 32, 107, 101, 121]⟩] 9)
        have hal := (Upd.refl [] w4).alloc (.cells #[.string ⟨#[110, 111, 32, 115, 117, 99, 104, 32, 107, 101, 121]⟩] 9)
        have HK := hide hK; have HAL := hide hal
        obtain ⟨⟨m5, r5⟩, hd5⟩ : ∃ x, kvDo a.m nsc = x := ⟨_, rfl⟩
        have HD5 := hide hd5
        clear hs4 hK hal hd5
        go_wp2_with fail
        have hdo := do_any (c := nsc) (w4.alloc (.cells #[.string ⟨#[110, 111, 32, 115, 117, 99, 104, 32, 107, 101, 121]⟩] 9)) (ENV.out.upd_nil (P4.out.upd.trans HAL.out)) (S4.out.upd_nil HAL.out) OK.out.kv ⟨nsc_fits, _, rfl, strs1 (s := nsk) HK.out⟩ (by have := OK.out.len; omega)
        rw [HD5.out] at hdo
        refine hdo.mono ?_
        rintro e w5 ⟨rfl, -, hu5⟩
        have P5 := hide (P.out.upd_nil ((hu4.trans HAL.out).trans_new hu5 (fun k hk => .inr (by simp at hk; subst hk; omega))))
        clear hdo hu5 hu4 HK HAL S4 P4 P
        go_wp2_with fail
        refine (atable_any w5 P5.out.ap OK.out (by omega)).mono ?_
        rintro e w6 ⟨⟨b6, c6, g6, rfl, ht6, hb6, hc6, hg6⟩, hu6⟩
        have T6 := hide ht6
        clear ht6
        go_wp2_with fail
        refine (keepx_any (client := 2147483648) (seq := 1) (r := ⟨0, []⟩) w6 T6.out (by omega) (by omega) (by have := OK.out.tab; omega)).mono ?_
        rintro e w7 ⟨rfl, hu7⟩
        have P7 := hide (P5.out.upd_nil (hu6.trans_new hu7 (fun k hk => .inr (by simp at hk; omega))))
        clear hu6 hu7 T6 P5
        obtain ⟨k0, k1, k2⟩ := cell3 P7.out.blk
        go_wp2_with fail
        refine (rabytes_any w7 P7.out.prs P7.out.las (OK.out.w (by omega)) (by have := OK.out.len; omega)).mono ?_
        obtain ⟨K, hK⟩ : ∃ x, apB a = x := ⟨_, rfl⟩
        have hkl : K.length ≤ 1000000 := by
          have q1 := OK.out.len; have q2 := OK.out.tab; have q3 := OK.out.n
          have q4 := prs_len a.m OK.out.kv; have q5 := tbs_len a.t (OK.out.w (by omega)).tab
          have q6 := uv_len10 (n := a.n) (by omega); have q7 := uv_len10 (n := a.m.length) (by omega); have q8 := uv_len10 (n := a.t.length) (by omega)
          rw [← hK, apB, tbB, kvB]
          simp only [List.length_append]
          omega
        rw [hK]
        rw [hK] at HOF
        have HK := hide hK
        clear hK
        rintro e w8 ⟨v8, rfl, o8, hu8⟩
        obtain ⟨a8, c8, rfl, hn8, hc8, -⟩ := owns_slice o8
        have P8 := hide (P7.out.upd_nil hu8); have O8 := hide o8
        have hcm8 := hide hc8
        clear o8 hu8 P7 k0 k1 k2
        go_wp2_with fail
        refine (aof_any w8 (src_own O8.out (by simp [u8v, Value.oneCell'])) hn8 hkl).mono ?_
        rw [HOF.out]
        rintro e w9 ⟨⟨v9, rfl, hv9⟩, hu9⟩
        obtain ⟨p9, rfl, hp9⟩ := hv9
        have P9 := hide (P8.out.upd_nil hu9); have N9 := hide hp9
        clear hp9 hu9 P8 O8
        go_wp2_with fail
        refine (ado_nil w9).mono ?_
        rintro e w10 ⟨rfl, hu10⟩
        have P10 := hide (P9.out.upd_nil hu10); have N10 := hide (N9.out.upd_nil hu10)
        clear hu10 P9 N9
        unfold rpv
        go_upto_region 19 with fail
        have hb11 := blk_new w10 (.cells #[.int .u8 2, .string ⟨#[]⟩] TRp)
        have hu11 := (Upd.refl [] w10).alloc (.cells #[.int .u8 2, .string ⟨#[]⟩] TRp)
        change Code.wp _ _ _ _ (w10.alloc (.cells #[.int .u8 2, .string ⟨#[]⟩] TRp))
        generalize w10.alloc (.cells #[.int .u8 2, .string ⟨#[]⟩] TRp) = w11 at *
        obtain ⟨B11, hB11⟩ : ∃ x, w10.heap.size = x := ⟨_, rfl⟩
        rw [hB11] at hb11 ⊢
        have P11 := hide (P10.out.upd_nil hu11); have N11 := hide (N10.out.upd_nil hu11); have X11 := hide hb11
        clear hb11 hu11 hB11 P10 N10
        refine wp_region_z (fun wx => Upd [] w11 wx) 99 (by kernel_rfl) ?_
        have s0 : Upd [] w11 (w11.drewN 1) := (Upd.refl _ _).drewN 1
        refine zE 0 rfl (by kernel_rfl) (fun _ _ _ _ h => h) rfl (by exact s0) ?_
        apply Exists.intro
        refine ⟨fun wx hS => ?_, ?_⟩
        · go_simp; rfl
        simp only [Act.put, List.setIfInBounds_toArray, List.set_cons_succ, List.set_cons_zero, List.getElem_toArray, List.getElem_cons_zero]
        refine zE 1 rfl (by kernel_rfl) (fun _ _ _ _ h => h) rfl (by exact s0) ?_
        apply Exists.intro
        refine ⟨fun wx hS => ?_, ?_⟩
        · go_simp; rfl
        simp only [Act.put, zz1, zz2, zz3, zz4, zz5, zz6]
        refine zE 2 rfl (by kernel_rfl) (fun _ _ _ _ h => h) rfl (by exact s0) ?_
        apply Exists.intro
        refine ⟨fun wx hS => ?_, ?_⟩
        · go_simp; rfl
        simp only [Act.put, zz1, zz2, zz3, zz4, zz5, zz6]
        refine zE 3 rfl (by kernel_rfl) (fun _ _ _ _ h => h) rfl (by exact s0) ?_
        apply Exists.intro
        refine ⟨fun wx hS => ?_, ?_⟩
        · go_simp; rfl
        simp only [Act.put, zz1, zz2, zz3, zz4, zz5, zz6]
        refine zE 4 rfl (by kernel_rfl) (fun _ _ _ _ h => h) rfl (by exact s0) ?_
        apply Exists.intro
        refine ⟨fun wx hS => ?_, ?_⟩
        · go_simp; rfl
        simp only [Act.put, zz1, zz2, zz3, zz4, zz5, zz6]
        refine wpAnyZ_one 5 (by kernel_rfl) rfl rfl (fun K hK => ?_)
        try simp only [List.getElem_toArray, List.getElem_cons_succ, List.getElem_cons_zero]
        go_simp
        refine (asame_any (w11.drewN 1) (P11.out.ap.upd_nil s0) (N11.out.upd_nil s0) OK.out (by omega)).mono ?_
        rintro e w12 ⟨rfl, hu12⟩
        have s1 := s0.trans hu12
        clear s0 hu12
        refine hK _ _ (.inr s1) ?_
        clear hK K
        try simp only [Act.put, zz1, zz2, zz3]
        refine zE 6 rfl (by kernel_rfl) (fun _ _ _ _ h => h) rfl (by exact s1) ?_
        apply Exists.intro
        refine ⟨fun wx hS => ?_, ?_⟩
        · go_simp; rfl
        simp only [Act.put, zz1, zz2, zz3, zz4, zz5, zz6]
        refine zE 7 rfl (by kernel_rfl) (fun _ _ _ _ h => h) rfl (by exact s1) ?_
        apply Exists.intro
        refine ⟨fun wx hS => ?_, ?_⟩
        · go_simp; rfl
        simp only [Act.put, zz1, zz2, zz3, zz4, zz5, zz6]
        refine zE 8 rfl (by kernel_rfl) (fun _ _ _ _ h => h) rfl (by exact s1) ?_
        apply Exists.intro
        refine ⟨fun wx hS => ?_, ?_⟩
        · go_simp; rfl
        simp only [Act.put, zz1, zz2, zz3, zz4, zz5, zz6]
        refine zE 9 rfl (by kernel_rfl) (fun _ _ _ _ h => h) rfl (by exact s1) ?_
        apply Exists.intro
        refine ⟨fun wx hS => ?_, ?_⟩
        · go_simp; rfl
        simp only [Act.put, zz1, zz2, zz3, zz4, zz5, zz6]
        refine wpAnyZ_one 10 (by kernel_rfl) rfl rfl (fun K hK => ?_)
        try simp only [List.getElem_toArray, List.getElem_cons_succ, List.getElem_cons_zero]
        go_simp
        refine (fold_any w12 (ENV.out.upd_nil (P11.out.upd.trans s1)) (cmK.row_upd_nil CR.out (P11.out.upd.trans s1)) hl100).mono ?_
        rw [HFA.out]
        rintro e w13 ⟨⟨lo13, hi13, p13, rfl, hp13, -, -⟩, -, hu13⟩
        have s2 := s1.trans hu13
        clear hu13 s1
        refine hK _ _ (.inr s2) ?_
        clear hK K
        try simp only [Act.put, zz1, zz2, zz3]
        refine wpAnyZ_one 11 (by kernel_rfl) rfl rfl (fun K hK => ?_)
        try simp only [List.getElem_toArray, List.getElem_cons_succ, List.getElem_cons_zero]
        go_simp
        refine (asame_any w13 (P11.out.ap.upd_nil s2) hp13 OK.out (by omega)).mono ?_
        rintro e w14 ⟨rfl, hu14⟩
        have s3 := s2.trans hu14
        clear hu14 s2 hp13
        refine hK _ _ (.inr s3) ?_
        clear hK K
        try simp only [Act.put, zz1, zz2, zz3]
        refine zE 12 rfl (by kernel_rfl) (fun _ _ _ _ h => h) rfl (by exact s3) ?_
        apply Exists.intro
        refine ⟨fun wx hS => ?_, ?_⟩
        · go_simp; rfl
        simp only [Act.put, zz1, zz2, zz3, zz4, zz5, zz6]
        refine zE 13 rfl (by kernel_rfl) (fun _ _ _ _ h => h) rfl (by exact s3) ?_
        apply Exists.intro
        refine ⟨fun wx hS => ?_, ?_⟩
        · go_simp; rfl
        simp only [Act.put, zz1, zz2, zz3, zz4, zz5, zz6]
        refine zE 14 rfl (by kernel_rfl) (fun _ _ _ _ h => h) rfl (by exact s3) ?_
        apply Exists.intro
        refine ⟨fun wx hS => ?_, ?_⟩
        · go_simp; rfl
        simp only [Act.put, zz1, zz2, zz3, zz4, zz5, zz6]
        refine zE 17 rfl (by kernel_rfl) (fun _ _ _ _ h => h) rfl (by exact s3) ?_
        apply Exists.intro
        refine ⟨fun wx hS => ?_, ?_⟩
        · obtain ⟨x0, x1, x2⟩ := cell3 (hS.get P11.out.blk (by simp)); go_simp; rfl
        simp only [Act.put, zz1, zz2, zz3, zz4, zz5, zz6]
        refine wpAnyZ_one 15 (by kernel_rfl) rfl rfl (fun K hK => ?_)
        try simp only [List.getElem_toArray, List.getElem_cons_succ, List.getElem_cons_zero]
        go_simp
        refine (abytes_any w14 (P11.out.ap.upd_nil s3) (OK.out.w (by omega))).mono ?_
        rw [HK.out]
        rintro e w15 ⟨v15, rfl, o15, hu15⟩
        obtain ⟨a15, c15, rfl, -, -, -⟩ := owns_slice o15
        have s4 := s3.trans hu15
        have O15 := hide o15
        clear o15 s3 hu15
        refine hK _ _ (.inr s4) ?_
        clear hK K
        try simp only [Act.put, zz1, zz2, zz3]
        refine wpAnyZ_strong (S' := fun wx => Upd [] w15 wx) (fun wx h => s4.trans h) _ _ _ _ ?_
        have t0 : Upd [] w15 w15 := Upd.refl _ _
        refine zE 16 rfl (by kernel_rfl) (fun _ _ _ _ h => h) rfl (by exact t0) ?_
        apply Exists.intro
        refine ⟨fun wx hS => ?_, ?_⟩
        · have hq := run_str (src_own (owns_upd O15.out hS (by simp)) (by simp [u8v, Value.oneCell'])); go_simp; rfl
        simp only [Act.put, zz1, zz2, zz3, zz4, zz5, zz6]
        refine wpAnyZ_one 18 (by kernel_rfl) rfl rfl (fun K hK => ?_)
        try simp only [List.getElem_toArray, List.getElem_cons_succ, List.getElem_cons_zero]
        go_simp
        refine (rabytes_any w15 (pairK.row_upd_nil P11.out.prs s4) (laK.row_upd_nil P11.out.las s4) (OK.out.w (by omega)) (by have := OK.out.len; omega)).mono ?_
        rw [HK.out]
        rintro e w16 ⟨v16, rfl, o16, hu16⟩
        obtain ⟨a16, c16, rfl, -, -, -⟩ := owns_slice o16
        have s5 := s4.trans hu16
        have O16 := hide o16
        clear o16 s4
        refine hK _ _ (.inr hu16) ?_
        clear hK K
        try simp only [Act.put, zz1, zz2, zz3]
        refine wpAnyZ_strong (S' := fun wx => Upd [] w16 wx) (fun wx h => hu16.trans h) _ _ _ _ ?_
        clear t0
        have t0 : Upd [] w16 w16 := Upd.refl _ _
        refine zE 19 rfl (by kernel_rfl) (fun _ _ _ _ h => h) rfl (by exact t0) ?_
        apply Exists.intro
        refine ⟨fun wx hS => ?_, ?_⟩
        · have hq := run_str (src_own (owns_upd O16.out hS (by simp)) (by simp [u8v, Value.oneCell'])); go_simp; rfl
        simp only [Act.put, zz1, zz2, zz3, zz4, zz5, zz6]
        refine zE 20 rfl (by kernel_rfl) (fun _ _ _ _ h => h) rfl (by exact t0) ?_
        apply Exists.intro
        refine ⟨fun wx hS => ?_, ?_⟩
        · have hq : ((strOf K).toList == (strOf K).toList) = true := (by simp); go_simp; rfl
        simp only [Act.put, zz1, zz2, zz3, zz4, zz5, zz6]
        refine zE 21 rfl (by kernel_rfl) (fun _ _ _ _ h => h) rfl (by exact t0) ?_
        apply Exists.intro
        refine ⟨fun wx hS => ?_, ?_⟩
        · go_simp; rfl
        simp only [Act.put, zz1, zz2, zz3, zz4, zz5, zz6]
        refine zE 22 rfl (by kernel_rfl) (fun _ _ _ _ h => h) rfl (by exact t0) ?_
        apply Exists.intro
        refine ⟨fun wx hS => ?_, ?_⟩
        · go_simp; rfl
        simp only [Act.put, zz1, zz2, zz3, zz4, zz5, zz6]
        refine zE 23 rfl (by kernel_rfl) (fun _ _ _ _ h => h) rfl (by exact t0) ?_
        apply Exists.intro
        refine ⟨fun wx hS => ?_, ?_⟩
        · go_simp; rfl
        simp only [Act.put, zz1, zz2, zz3, zz4, zz5, zz6]
        refine zE 24 rfl (by kernel_rfl) (fun _ _ _ _ h => h) rfl (by exact t0) ?_
        apply Exists.intro
        refine ⟨fun wx hS => ?_, ?_⟩
        · obtain ⟨x0, x1⟩ := cell2 ((s5.trans hS).get X11.out (by simp)); go_simp; rfl
        simp only [Act.put, zz1, zz2, zz3, zz4, zz5, zz6]
        refine zE 25 rfl (by kernel_rfl) (fun _ _ _ _ h => h) rfl (by exact t0) ?_
        apply Exists.intro
        refine ⟨fun wx hS => ?_, ?_⟩
        · go_simp; rfl
        simp only [Act.put, zz1, zz2, zz3, zz4, zz5, zz6]
        refine zE 26 rfl (by kernel_rfl) (fun _ _ _ _ h => h) rfl (by exact t0) ?_
        apply Exists.intro
        refine ⟨fun wx hS => ?_, ?_⟩
        · go_simp; rfl
        simp only [Act.put, zz1, zz2, zz3, zz4, zz5, zz6]
        refine zE 27 rfl (by kernel_rfl) (fun _ _ _ _ h => h) rfl (by exact t0) ?_
        apply Exists.intro
        refine ⟨fun wx hS => ?_, ?_⟩
        · go_simp; rfl
        simp only [Act.put, zz1, zz2, zz3, zz4, zz5, zz6]
        refine zE 28 rfl (by kernel_rfl) (fun _ _ _ _ h => h) rfl (by exact t0) ?_
        apply Exists.intro
        refine ⟨fun wx hS => ?_, ?_⟩
        · go_simp; rfl
        simp only [Act.put, zz1, zz2, zz3, zz4, zz5, zz6]
        refine zE 29 rfl (by kernel_rfl) (fun _ _ _ _ h => h) rfl (by exact t0) ?_
        apply Exists.intro
        refine ⟨fun wx hS => ?_, ?_⟩
        · go_simp; rfl
        simp only [Act.put, zz1, zz2, zz3, zz4, zz5, zz6]
        refine zE 30 rfl (by kernel_rfl) (fun _ _ _ _ h => h) rfl (by exact t0) ?_
        apply Exists.intro
        refine ⟨fun wx hS => ?_, ?_⟩
        · go_simp; rfl
        simp only [Act.put, zz1, zz2, zz3, zz4, zz5, zz6]
        refine zE 31 rfl (by kernel_rfl) (fun _ _ _ _ h => h) rfl (by exact t0) ?_
        apply Exists.intro
        refine ⟨fun wx hS => ?_, ?_⟩
        · go_simp; rfl
        simp only [Act.put, zz1, zz2, zz3, zz4, zz5, zz6]
        refine zE 32 rfl (by kernel_rfl) (fun _ _ _ _ h => h) rfl (by exact t0) ?_
        apply Exists.intro
        refine ⟨fun wx hS => ?_, ?_⟩
        · go_simp; rfl
        simp only [Act.put, zz1, zz2, zz3, zz4, zz5, zz6]
        refine wpAnyZ_one 33 (by kernel_rfl) rfl rfl (fun K hK => ?_)
        try simp only [List.getElem_toArray, List.getElem_cons_succ, List.getElem_cons_zero]
        go_simp
        refine (acount_nil w16).mono ?_
        rintro e wx ⟨rfl, rfl⟩
        refine hK _ _ (.inr t0) ?_
        clear hK K
        try simp only [Act.put, zz1, zz2, zz3]
        refine zE 34 rfl (by kernel_rfl) (fun _ _ _ _ h => h) rfl (by exact t0) ?_
        apply Exists.intro
        refine ⟨fun wx hS => ?_, ?_⟩
        · go_simp; rfl
        simp only [Act.put, zz1, zz2, zz3, zz4, zz5, zz6]
        refine zE 35 rfl (by kernel_rfl) (fun _ _ _ _ h => h) rfl (by exact t0) ?_
        apply Exists.intro
        refine ⟨fun wx hS => ?_, ?_⟩
        · go_simp; rfl
        simp only [Act.put, zz1, zz2, zz3, zz4, zz5, zz6]
        refine zE 36 rfl (by kernel_rfl) (fun _ _ _ _ h => h) rfl (by exact t0) ?_
        apply Exists.intro
        refine ⟨fun wx hS => ?_, ?_⟩
        · go_simp; rfl
        simp only [Act.put, zz1, zz2, zz3, zz4, zz5, zz6]
        refine zE 37 rfl (by kernel_rfl) (fun _ _ _ _ h => h) rfl (by exact t0) ?_
        apply Exists.intro
        refine ⟨fun wx hS => ?_, ?_⟩
        · go_simp; rfl
        simp only [Act.put, zz1, zz2, zz3, zz4, zz5, zz6]
        refine wpAnyZ_one 38 (by kernel_rfl) rfl rfl (fun K hK => ?_)
        try simp only [List.getElem_toArray, List.getElem_cons_succ, List.getElem_cons_zero]
        go_simp
        refine (anew_any w16).mono ?_
        rintro e w17 ⟨⟨p17, rfl, hp17⟩, hu17⟩
        refine hK _ _ (.inr hu17) ?_
        clear hK K
        try simp only [Act.put, zz1, zz2, zz3]
        refine wpAnyZ_one 39 (by kernel_rfl) rfl rfl (fun K hK => ?_)
        try simp only [List.getElem_toArray, List.getElem_cons_succ, List.getElem_cons_zero]
        go_simp
        refine (asame_nil w17 hp17).mono ?_
        rintro e w18 ⟨rfl, hu18⟩
        have t1 := hu17.trans hu18
        clear t0 hp17 hu17 hu18
        refine hK _ _ (.inr t1) ?_
        clear hK K
        try simp only [Act.put, zz1, zz2, zz3]
        refine zE 40 rfl (by kernel_rfl) (fun _ _ _ _ h => h) rfl (by exact t1) ?_
        apply Exists.intro
        refine ⟨fun wx hS => ?_, ?_⟩
        · go_simp; rfl
        simp only [Act.put, zz1, zz2, zz3, zz4, zz5, zz6]
        refine zE 41 rfl (by kernel_rfl) (fun _ _ _ _ h => h) rfl (by exact t1) ?_
        apply Exists.intro
        refine ⟨fun wx hS => ?_, ?_⟩
        · go_simp; rfl
        simp only [Act.put, zz1, zz2, zz3, zz4, zz5, zz6]
        refine zE 42 rfl (by kernel_rfl) (fun _ _ _ _ h => h) rfl (by exact t1) ?_
        apply Exists.intro
        refine ⟨fun wx hS => ?_, ?_⟩
        · go_simp; rfl
        simp only [Act.put, zz1, zz2, zz3, zz4, zz5, zz6]
        refine wpAnyZ_one 43 (by kernel_rfl) rfl rfl (fun K hK => ?_)
        try simp only [List.getElem_toArray, List.getElem_cons_succ, List.getElem_cons_zero]
        go_simp
        refine (astate_nil w18).mono ?_
        rintro e w19 ⟨⟨b19, g19, rfl, hs19, -, -⟩, hu19⟩
        have t2 := t1.trans hu19
        clear t1 hu19
        refine hK _ _ (.inr t2) ?_
        clear hK K
        try simp only [Act.put, zz1, zz2, zz3]
        refine wpAnyZ_one 44 (by kernel_rfl) rfl rfl (fun K hK => ?_)
        try simp only [List.getElem_toArray, List.getElem_cons_succ, List.getElem_cons_zero]
        go_simp
        refine (klen_any w19 hs19).mono ?_
        rintro e wx ⟨rfl, rfl⟩
        refine hK _ _ (.inr t2) ?_
        clear hK K
        try simp only [Act.put, zz1, zz2, zz3]
        refine zE 45 rfl (by kernel_rfl) (fun _ _ _ _ h => h) rfl (by exact t2) ?_
        apply Exists.intro
        refine ⟨fun wx hS => ?_, ?_⟩
        · go_simp; rfl
        simp only [Act.put, zz1, zz2, zz3, zz4, zz5, zz6]
        refine zE 46 rfl (by kernel_rfl) (fun _ _ _ _ h => h) rfl (by exact t2) ?_
        apply Exists.intro
        refine ⟨fun wx hS => ?_, ?_⟩
        · go_simp; rfl
        simp only [Act.put, zz1, zz2, zz3, zz4, zz5, zz6]
        refine zE 47 rfl (by kernel_rfl) (fun _ _ _ _ h => h) rfl (by exact t2) ?_
        apply Exists.intro
        refine ⟨fun wx hS => ?_, ?_⟩
        · go_simp; rfl
        simp only [Act.put, zz1, zz2, zz3, zz4, zz5, zz6]
        refine zE 48 rfl (by kernel_rfl) (fun _ _ _ _ h => h) rfl (by exact t2) ?_
        apply Exists.intro
        refine ⟨fun wx hS => ?_, ?_⟩
        · go_simp; rfl
        simp only [Act.put, zz1, zz2, zz3, zz4, zz5, zz6]
        refine wpAnyZ_one 49 (by kernel_rfl) rfl rfl (fun K hK => ?_)
        try simp only [List.getElem_toArray, List.getElem_cons_succ, List.getElem_cons_zero]
        go_simp
        refine (atable_nil w19).mono ?_
        rintro e w20 ⟨⟨b20, c20, g20, rfl, ht20, -, -, -⟩, hu20⟩
        have t3 := t2.trans hu20
        clear t2 hu20 hs19
        refine hK _ _ (.inr t3) ?_
        clear hK K
        try simp only [Act.put, zz1, zz2, zz3]
        refine wpAnyZ_one 50 (by kernel_rfl) rfl rfl (fun K hK => ?_)
        try simp only [List.getElem_toArray, List.getElem_cons_succ, List.getElem_cons_zero]
        go_simp
        refine (tlen_any w20 ht20).mono ?_
        rintro e wx ⟨rfl, rfl⟩
        refine hK _ _ (.inr t3) ?_
        clear hK K
        try simp only [Act.put, zz1, zz2, zz3]
        refine zE 51 rfl (by kernel_rfl) (fun _ _ _ _ h => h) rfl (by exact t3) ?_
        apply Exists.intro
        refine ⟨fun wx hS => ?_, ?_⟩
        · go_simp; rfl
        simp only [Act.put, zz1, zz2, zz3, zz4, zz5, zz6]
        refine zE 52 rfl (by kernel_rfl) (fun _ _ _ _ h => h) rfl (by exact t3) ?_
        apply Exists.intro
        refine ⟨fun wx hS => ?_, ?_⟩
        · go_simp; rfl
        simp only [Act.put, zz1, zz2, zz3, zz4, zz5, zz6]
        refine zE 53 rfl (by kernel_rfl) (fun _ _ _ _ h => h) rfl (by exact t3) ?_
        apply Exists.intro
        refine ⟨fun wx hS => ?_, ?_⟩
        · go_simp; rfl
        simp only [Act.put, zz1, zz2, zz3, zz4, zz5, zz6]
        refine wpAnyZ_one 54 (by kernel_rfl) rfl rfl (fun K hK => ?_)
        try simp only [List.getElem_toArray, List.getElem_cons_succ, List.getElem_cons_zero]
        go_simp
        refine (wakes_any w20 (ENV.out.upd_nil (P11.out.upd.trans (s5.trans t3)))).mono ?_
        rintro e w21 ⟨rfl, hu21⟩
        have t4 := t3.trans hu21
        clear t3 hu21 ht20
        refine hK _ _ (.inr t4) ?_
        clear hK K
        try simp only [Act.put, zz1, zz2, zz3]
        refine zE 55 rfl (by kernel_rfl) (fun _ _ _ _ h => h) rfl (by exact t4) ?_
        apply Exists.intro
        refine ⟨fun wx hS => ?_, ?_⟩
        · go_simp; rfl
        simp only [Act.put, zz1, zz2, zz3, zz4, zz5, zz6]
        refine zE 56 rfl (by kernel_rfl) (fun _ _ _ _ h => h) rfl (by exact t4) ?_
        apply Exists.intro
        refine ⟨fun wx hS => ?_, ?_⟩
        · go_simp; rfl
        simp only [Act.put, zz1, zz2, zz3, zz4, zz5, zz6]
        refine wpAnyZ_done (by kernel_rfl) ?_ _
        have UF := hide (P11.out.upd.trans (s5.trans t4))
        clear s5 t4 hu16 O15 O16
        go_wp2_with fail
        go_ret
        exact ⟨rfl, UF.out⟩
end Go.Proofs.YthpnnffogbjhpaaGreatDoor.Kv
