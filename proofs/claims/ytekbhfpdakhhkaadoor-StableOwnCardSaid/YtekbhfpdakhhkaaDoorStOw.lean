/- The law StableOwn: what is handed in, and what is told, is nobody else's. -/
import Derived.Test.YtekbhfpdakhhkaaDoorStTw
import Derived.Test.YtekbhfpdakhhkaaDoorStNu
import Derived.Test.YtekbhfpdakhhkaaDoorStWk
namespace Go.Proofs.YtekbhfpdakhhkaaDoor.St
set_option linter.unusedSimpArgs false
set_option linter.unusedVariables false
set_option linter.unnecessarySimpa false
open Go.RowKit Go.Lib Go.Proofs.YtekbhfpdakhhkaaDoor.Crc Go.Proofs.YtekbhfpdakhhkaaDoor.Var Go.Proofs.YtekbhfpdakhhkaaDoor.DiskW Go.Proofs.YtekbhfpdakhhkaaDoor.Rec Go.Proofs.YtekbhfpdakhhkaaDoor.Fr

def ownS (slot : Nat) (bs cs : List UInt8) : Sto := ⟨Bal.zero, 1, cs, [(slot, ⟨Bal.zero, bs⟩)]⟩
theorem own_sets {slot : Nat} (bs cs : List UInt8) (h2 : 2 ≤ slot) : mayM sto0 ⟨2, slot, Bal.zero, bs⟩ = 0 ∧ mayM (doM sto0 ⟨2, slot, Bal.zero, bs⟩) ⟨3, 1, Bal.zero, cs⟩ = 0 ∧ doM (doM sto0 ⟨2, slot, Bal.zero, bs⟩) ⟨3, 1, Bal.zero, cs⟩ = ownS slot bs cs := by
  refine ⟨?_, ?_, ?_⟩
  · unfold mayM
    rw [if_neg (by simp [Bal.zero, sto0, bLess]), if_neg (by simp [sto0]; omega)]
  · unfold mayM
    rw [if_neg (by simp), if_neg (by simp [doM, sto0])]
  · have : doM sto0 ⟨2, slot, Bal.zero, bs⟩ = ⟨Bal.zero, 0, [], [(slot, ⟨Bal.zero, bs⟩)]⟩ := rfl
    rw [this]
    unfold doM
    rw [if_neg (by simp), if_neg (by simp)]
    simp only [ownS, List.filter_cons, List.filter_nil]
    rw [if_pos (by simp; omega)]
/-- A set on a log. -/
theorem LogS.put {E : List Nat} {w0 w w' : World} {S L D g base q i : Nat} {recs : List (List UInt8)} {s : Sto} {x : SetM} {e : Ending} (h : LogS E w0 w S L D g base recs q s i) (hx : SetOk x) (hb : x.kind = 3 ∨ 0 ≤ x.b.r ∧ x.b.r < 7) (hm : mayM s x = 0) (hp : PutSays E w S L D g base (LogD recs q) s x e w') :
    e = .returned (.int .i64 0) ∧ LogS E w0 w' S L D g base (recs ++ [recB x]) q (doM s x) (i + 1) ∧ Turned D [S, g] w w' := by
  obtain ⟨bv, so, sn, sc, hs⟩ := h.at_
  obtain ⟨he, hs', ht⟩ := step_ok hp h.hq hx hm rfl rfl
  have hn := h.hn
  have hq := h.hq
  refine ⟨he, ⟨hs', h.lt, Nat.le_trans h.hb ht.size, ht.far hs.dsk h.upd h.lt.2.2.2.2.1 h.lt.1 ?_, h.tab, by simp; omega, ?_, by simp; omega, h.sto.next hx hm⟩, ht⟩
  · intro k hk
    simp only [List.mem_cons, List.not_mem_nil, or_false] at hk
    rcases hk with rfl | rfl
    · exact h.lt.2.1
    · exact h.lt.2.2.2.1
  · intro r hr
    rcases List.mem_append.1 hr with h1 | h1
    · exact h.hl r h1
    · simp only [List.mem_singleton] at h1
      subst h1
      exact (recB_len hx (hb.elim .inr .inl)).2
theorem LogS.aside {E : List Nat} {w0 w w1 : World} {S L D g base q i : Nat} {recs : List (List UInt8)} {s : Sto} {Y : List Nat} (h : LogS E w0 w S L D g base recs q s i) (hu : Upd Y w w1) (hY : ∀ k ∈ Y, Foreign E w S L D g k) (h0 : ∀ k ∈ Y, w0.heap.size ≤ k) : LogS E w0 w1 S L D g base recs q s i := by
  obtain ⟨bv, so, sn, sc, ha⟩ := h.at_
  exact h.next (h.upd.trans_new hu fun k hk => .inr (h0 k hk)) hu.size ⟨bv, so, sn, sc, ha.aside hu hY⟩
theorem LogS.more {E F : List Nat} {w0 w w1 : World} {S L D g base q i : Nat} {recs : List (List UInt8)} {s : Sto} (h : LogS E w0 w S L D g base recs q s i) (hu : Upd [] w w1) (hF : ∀ k ∈ F, w.heap.size ≤ k ∧ k < w1.heap.size) : LogS (F ++ E) w0 w1 S L D g base recs q s i ∧ ∀ k ∈ F, Foreign (F ++ E) w1 S L D g k := by
  obtain ⟨bv, so, sn, sc, ha⟩ := h.at_
  have hl := h.ltD
  exact ⟨h.next (h.upd.trans hu) hu.size ⟨bv, so, sn, sc, ha.more hu hF⟩, fun k hk => by
    obtain ⟨f1, f2⟩ := hF k hk
    exact ⟨by simp [hk], SafeB.fresh ha.dsk hu (by simp) f1 f2, by omega, by omega, by omega⟩⟩
theorem Lies.turned {w w' : World} {D n c : Nat} {X Y : List Nat} {xo : Option Addr} {bs : List UInt8} (h : Lies w D X xo n c bs) (ht : Turned D Y w w') (hY : ∀ k ∈ Y, k ∈ X) : Lies w' D X xo n c bs :=
  h.keep fun a e h0 => ht.block (h.safe a e h0).1 fun hm => (h.safe a e h0).2 (hY _ hm)
theorem Nums.turned {E : List Nat} {w w' : World} {S L D g b n : Nat} (h : Nums w (some ⟨b, 0, none⟩) n) (hf : Foreign E w S L D g b) (ht : Turned D [S, g] w w') : Nums w' (some ⟨b, 0, none⟩) n := by
  obtain ⟨Y, hu, hY⟩ := ht.upd
  refine h.upd hu fun a e h0 hm => ?_
  cases e
  rcases hY b hm with e | e | e
  · exact hf.2.1.ne e
  · exact hf.2.1.own e
  · simp only [List.mem_cons, List.not_mem_nil, or_false] at e
    rcases e with e | e
    · exact hf.2.2.1 e
    · exact hf.2.2.2.2 e
def Nums3 (w : World) (ao : Option Addr) (n : Nat) (po : Option Addr) (m : Nat) (xo : Option Addr) (k : Nat) : Prop := Nums w ao n ∧ Nums w po m ∧ Nums w xo k
theorem Nums.put {w : World} {ao : Option Addr} {n : Nat} (h : Nums w ao n) (b i : Nat) (u : Int) : Nums (w.setCell ⟨b, i, none⟩ (.int .u8 u)) ao n := fun j hj => by
  obtain ⟨b', v, e, h1, h2⟩ := h j hj
  by_cases hij : b = b' ∧ i = j
  · obtain ⟨rfl, rfl⟩ := hij
    exact ⟨b, u, e, World.cell?_setCell_same _ _ _ h1, by rw [World.frozen?_setCell]; exact h2⟩
  · refine ⟨b', v, e, ?_, by rw [World.frozen?_setCell]; exact h2⟩
    rw [World.cell?_setCell_other _ _ _ _ (by intro e; cases e; exact hij ⟨rfl, rfl⟩)]
    exact h1
theorem Nums3.set {w : World} {ao po xo : Option Addr} {n m k : Nat} (h : Nums3 w ao n po m xo k) (b i : Nat) (u : Int) : Nums3 (w.setCell ⟨b, i, none⟩ (.int .u8 u)) ao n po m xo k := ⟨h.1.put b i u, h.2.1.put b i u, h.2.2.put b i u⟩
set_option maxRecDepth 100000 in
set_option maxHeartbeats 8000000 in
theorem own_any {xo yo : Option Addr} {xn xc yn yc slot : Nat} {bs cs : List UInt8} (w : World) (hst : TabAt w) (hx : SrcAt w xo xn xc (bs.map u8v) 1) (hy : SrcAt w yo yn yc (cs.map u8v) 1) (hs : slot < 18446744073709551616) :
    Calls Tryd.prog 5 #[.slice xo xn xc, .slice yo yn yc, .int .u64 (slot : Int)] w fun e w' => e = .returned (.bool true) ∧ Upd [] w w' := by
  have HST := hide hst; have HX := hide hx; have HY := hide hy
  have hbl : bs.length = xn := by have := hx.len; simpa using this
  have hcl : cs.length = yn := by have := hy.len; simpa using this
  clear hst hx hy
  go_enter Tryd.func5, Tryd.ntmps5
  by_cases h1 : 200 < xn
  · have q1 : decide ((xn : Int) > 200) = true := by simp; omega
    have q2 : decide ((200 : Int) < (xn : Int)) = true := by simp; omega
    clear h1
    go_wp2_with fail
    refine (wakes16_any w HST.out).mono ?_
    rintro e w1 ⟨rfl, hu⟩
    have U := hide hu
    clear hu
    go_wp2_with fail
    go_ret
    exact ⟨rfl, U.out⟩
  have q1 : decide ((xn : Int) > 200) = false := by simp; omega
  have q2 : decide ((200 : Int) < (xn : Int)) = false := by simp; omega
  by_cases h2 : 200 < yn
  · have q3 : decide ((yn : Int) > 200) = true := by simp; omega
    have q4 : decide ((200 : Int) < (yn : Int)) = true := by simp; omega
    clear h1 h2
    go_wp2_with fail
    refine (wakes16_any w HST.out).mono ?_
    rintro e w1 ⟨rfl, hu⟩
    have U := hide hu
    clear hu
    go_wp2_with fail
    go_ret
    exact ⟨rfl, U.out⟩
  have q3 : decide ((yn : Int) > 200) = false := by simp; omega
  have q4 : decide ((200 : Int) < (yn : Int)) = false := by simp; omega
  by_cases h3 : slot < 2
  · have q5 : decide ((slot : Int) < 2) = true := by simp; omega
    have q6 : decide (slot < 2) = true := by simp; omega
    clear h1 h2 h3
    go_wp2_with fail
    refine (wakes16_any w HST.out).mono ?_
    rintro e w1 ⟨rfl, hu⟩
    have U := hide hu
    clear hu
    go_wp2_with fail
    go_ret
    exact ⟨rfl, U.out⟩
  have q5 : decide ((slot : Int) < 2) = false := by simp; omega
  have q6 : decide (slot < 2) = false := by simp; omega
  obtain ⟨m1, m2, m3⟩ := own_sets (slot := slot) bs cs (by omega)
  have M1 := hide m1; have M2 := hide m2; have M3 := hide m3
  have HB := hide (show xn ≤ 200 ∧ yn ≤ 200 ∧ 2 ≤ slot by omega)
  clear h1 h2 h3 m1 m2 m3
  go_wp2_with fail
  refine (fresh_any w HST.out).mono ?_
  rintro e w1 ⟨S, L, D, g, rfl, hf⟩
  have F := hide (hf.log HST.out)
  have U1 := hide hf.upd
  clear hf
  have hcv1 := fun nq => run_str (src_upd_nil HX.out (U1.out.drewN nq))
  have hcv2 := fun nq => run_str (src_upd_nil HY.out (U1.out.drewN nq))
  go_wp2_with fail
  go_quiet (fail)
  have u1 := U1.out.drewN nq
  have F1 := hide (F.out.upd_nil ((Upd.refl [] w1).drewN nq))
  generalize w1.drewN nq = w2 at *
  clear hcv1 hcv2 F U1
  obtain ⟨c1, w3, r3, u3, f3, n3, z3⟩ := conv_nums w2 bs (by have := HB.out; unfold maxLen; omega)
  obtain ⟨c2, w4, r4, u4, f4, n4, z4⟩ := conv_nums w3 cs (by have := HB.out; unfold maxLen; omega)
  have fr1 := F1.out.ltD
  have UW2 := hide u1
  clear u1
  obtain ⟨b1, hb1⟩ : ∃ b1, w2.heap.size = b1 := ⟨_, rfl⟩
  obtain ⟨b2, hb2⟩ : ∃ b2, w3.heap.size = b2 := ⟨_, rfl⟩
  obtain ⟨lg4, fg4⟩ := F1.out.more (F := [b1, b2]) (u3.trans u4) (by
    simp only [List.mem_cons, List.not_mem_nil, or_false]
    rintro k (rfl | rfl) <;> omega)
  rw [hb1] at r3 f3 n3
  rw [hb2] at r4 f4 n4
  obtain ⟨bv1, so1, sn1, sc1, hst1⟩ := F1.out.at_
  have hl3 := f3.lies (X := [S, L, g]) hst1.dsk u3 (by simp only [List.mem_cons, List.not_mem_nil, or_false]; rintro k (rfl | rfl | rfl) <;> omega)
  have hl4 := f4.lies (X := [S, L, g]) (hst1.upd_nil u3).dsk u4 (by simp only [List.mem_cons, List.not_mem_nil, or_false]; rintro k (rfl | rfl | rfl) <;> omega)
  replace hl3 := hl3.upd u4 (by omega) (by simp) (by simp)
  replace n3 := n3.upd u4 (by simp)
  obtain ⟨bv4, so4, sn4, sc4, hst4⟩ := lg4.at_
  have HL3 := hide hl3; have HL4 := hide hl4; have ST4 := hide hst4; have LG4 := hide lg4; have FG4 := hide fg4
  have N3 := hide n3; have N4 := hide n4
  have hbb : b2 = b1 + 1 ∧ w4.heap.size = b1 + 2 ∧ w.heap.size ≤ b1 := ⟨by omega, by omega, by have := UW2.out.size; omega⟩
  have BB := hide hbb
  clear hl3 hl4 hst4 lg4 fg4 n3 n4 f3 f4 u3 u4 hst1 z3 z4 hb1 hb2 fr1 F1 hbb
  have hbx := HB.out.1; have hby := HB.out.2.1
  have BL := hide hbl; have CL := hide hcl
  rw [hbl] at r3
  rw [hcl] at r4
  clear hbl hcl
  go_wp2_with fail
  have HL3' := HL3.out
  rw [BL.out] at HL3'
  refine (setVote_any (i := 0) w4 ST4.out (LG4.out.ready (by omega)) slot Bal.zero (some ⟨b1, 0, none⟩) xn c1 bs hs (by decide) HL3' (by have := BL.out; omega)).mono ?_
  intro e w5 hp5
  obtain ⟨rfl, lg5, t5⟩ := LG4.out.put ⟨.inr (.inl rfl), hs, (by decide : (0 : Nat) < 18446744073709551616), by have := BL.out; show bs.length ≤ 1000; omega⟩ (.inr ⟨(by decide : (0 : Int) ≤ 0), (by decide : (0 : Int) < 7)⟩) M1.out hp5
  have HL5 := hide (HL4.out.turned t5 (by simp))
  have f1 := (FG4.out b1 (by simp)).turned t5 (by simp)
  have f2 := (FG4.out b2 (by simp)).turned t5 (by simp)
  have n1 := N3.out.turned (FG4.out b1 (by simp)) t5
  have n2 := N4.out.turned (FG4.out b2 (by simp)) t5
  have LG5 := hide lg5; have FF5 := hide (And.intro f1 f2); have NN5 := hide (And.intro n1 n2)
  clear lg5 f1 f2 n1 n2 HL3' t5 hp5 HL3 HL4 ST4 LG4 FG4 N3 N4
  obtain ⟨bv5, so5, sn5, sc5, hst5⟩ := LG5.out.at_
  have ST5 := hide hst5
  clear hst5
  go_wp2_with fail
  have HL5' := HL5.out
  rw [CL.out] at HL5'
  refine (setSnap_any (i := 1) w5 ST5.out (LG5.out.ready (by omega)) 1 (some ⟨b2, 0, none⟩) yn c2 cs (by omega) HL5' (by have := CL.out; omega)).mono ?_
  intro e w6 hp6
  obtain ⟨rfl, lg6, t6⟩ := LG5.out.put ⟨.inr (.inr rfl), (by decide : (1 : Nat) < 18446744073709551616), (by decide : (0 : Nat) < 18446744073709551616), by have := CL.out; show cs.length ≤ 1000; omega⟩ (.inl rfl) M2.out hp6
  rw [M3.out] at lg6
  have f1 := FF5.out.1.turned t6 (by simp)
  have f2 := FF5.out.2.turned t6 (by simp)
  have n1 := NN5.out.1.turned FF5.out.1 t6
  have n2 := NN5.out.2.turned FF5.out.2 t6
  rw [BL.out] at n1
  rw [CL.out] at n2
  have LG6 := hide lg6; have F1 := hide f1; have F2 := hide f2; have N1 := hide n1; have N2 := hide n2
  clear lg6 f1 f2 n1 n2 HL5' t6 hp6 HL5 ST5 LG5 FF5 NN5 M1 M2 M3 r3 r4
  go_wp2_with fail
  go_loopw [13] (fun si wr => ∃ i : Nat, i ≤ xn ∧ si = .int .i64 i ∧ Nums wr (some ⟨b1, 0, none⟩) xn ∧ Upd [b1] w6 wr) (fun si _ => xn - (intOf si).toNat)
  case atStart => exact ⟨0, by omega, rfl, N1.out, Upd.refl _ _⟩
  case round =>
    obtain ⟨i, hi, rfl, hnm, hur⟩ := hrel
    have UR := hide hur; have NR := hide hnm
    clear hur hnm
    by_cases hin : i < xn
    · have HI := hide hin
      obtain ⟨bq, u, e, hc, hf⟩ := NR.out i hin
      have d5 : decide ((i : Int) < (xn : Int)) = true := by simp; omega
      have d5' : decide (i < xn) = true := by simpa using hin
      cases e
      go_wp2_with fail
      go_roundw
      case rel => exact ⟨i + 1, by have := HI.out; omega, by go_num, NR.out.set _ HI.out, UR.out.setCell (.inl (by simp)) _⟩
      case measure => have := HI.out; simp [intOf]; omega
    · have d5 : decide ((i : Int) < (xn : Int)) = false := by simp; omega
      have d5' : decide (i < xn) = false := by simpa using hin
      clear hin
      rename World => wl
      go_wp2_with fail
      have F2a := hide (F2.out.aside UR.out LG6.out.ltD.1 (by have := F1.out.2.1.ne; simp; exact fun e => this e.symm))
      have LGa := hide (LG6.out.aside UR.out (fun k hk => by simp only [List.mem_singleton] at hk; subst hk; exact F1.out) (fun k hk => by simp only [List.mem_singleton] at hk; subst hk; exact BB.out.2.2))
      go_loopw [14] (fun si wr => ∃ i : Nat, i ≤ yn ∧ si = .int .i64 i ∧ Nums wr (some ⟨b2, 0, none⟩) yn ∧ Upd [b2] wl wr) (fun si _ => yn - (intOf si).toNat)
      case atStart => exact ⟨0, by omega, rfl, N2.out.upd UR.out (fun a e h0 => by cases e; have := BB.out; simp; omega), Upd.refl _ _⟩
      case round =>
        obtain ⟨i, hi, rfl, hnm, hur⟩ := hrel
        have UR := hide hur; have NR := hide hnm
        clear hur hnm
        by_cases hin : i < yn
        · have HI := hide hin
          obtain ⟨bq, u, e, hc, hf⟩ := NR.out i hin
          have d5 : decide ((i : Int) < (yn : Int)) = true := by simp; omega
          have d5' : decide (i < yn) = true := by simpa using hin
          cases e
          go_wp2_with fail
          go_roundw
          case rel => exact ⟨i + 1, by have := HI.out; omega, by go_num, NR.out.set _ HI.out, UR.out.setCell (.inl (by simp)) _⟩
          case measure => have := HI.out; simp [intOf]; omega
        · have d5 : decide ((i : Int) < (yn : Int)) = false := by simp; omega
          have d5' : decide (i < yn) = false := by simpa using hin
          clear hin
          rename World => wl
          go_wp2_with fail
          have LGb := hide (LGa.out.aside UR.out (fun k hk => by simp only [List.mem_singleton] at hk; subst hk; exact F2a.out) (fun k hk => by simp only [List.mem_singleton] at hk; subst hk; have := BB.out; omega))
          obtain ⟨bvb, sob, snb, scb, hstb⟩ := LGb.out.at_
          have hsnb : snb = yn := by have h1 := hstb.snp.len; have h2 := CL.out; change cs.length = snb at h1; omega
          subst hsnb
          have STb := hide hstb
          have WB := hide (show w.heap.size ≤ wl.heap.size from LGb.out.upd.size)
          clear hstb UR NR LGa F2a N1 N2 F1 F2 LG6
          refine (votes_any wl STb.out LGb.out.sto (by omega) 0).mono ?_
          intro e wa hvs
          obtain ⟨v1, xs, rfl, hv1, hua⟩ := hvs.told
          have UA := hide hua; have VA := hide hv1
          clear hvs hv1 hua
          go_wp2_with fail
          refine (snap_any wa (STb.out.upd_nil UA.out) (by omega)).mono ?_
          rintro e wb ⟨⟨ao, cap, rfl, hao⟩, hub⟩
          have UB := hide (UA.out.trans hub); have UAB := hide hub; have SB := hide hao
          clear hub hao
          go_wp2_with fail
          have hmf : mfind (ownS slot bs cs).votes slot = some ⟨Bal.zero, bs⟩ := by simp [ownS, mfind_cons]
          refine (vote_any wb (STb.out.upd_nil UB.out) slot hs (by rw [hmf]; have := BL.out; show bs.length ≤ 1000; omega)).mono ?_
          rintro e wc ⟨po, pc, rfl, hpo, huc⟩
          rw [hmf] at hpo ⊢
          simp only [Option.isSome_some, Option.getD_some, if_true] at hpo ⊢
          change wc.ownsRow wb.heap.size 5 1 (.slice po bs.length pc) bs.length (bs.map u8v) at hpo
          rw [BL.out] at hpo ⊢
          go_upto_region 20 with fail
          have hbw := blk_new wc (votC slot Bal.zero.n Bal.zero.r (.slice po xn pc))
          have hal := (Upd.refl [] wc).alloc (votC slot Bal.zero.n Bal.zero.r (.slice po xn pc))
          have hszd : (wc.alloc (votC slot Bal.zero.n Bal.zero.r (.slice po xn pc))).heap.size = wc.heap.size + 1 := by simp
          obtain ⟨B17, hB17⟩ : ∃ B17, wc.heap.size = B17 := ⟨_, rfl⟩
          rw [hB17] at hbw hszd ⊢
          generalize wc.alloc (votC slot Bal.zero.n Bal.zero.r (.slice po xn pc)) = wd at *
          have uad := (UAB.out.trans huc).trans hal
          have hz1 := UA.out.size
          have hz2 := UAB.out.size
          have hz3 := huc.size
          obtain ⟨x, rfl⟩ := List.length_eq_one_iff.1 (VA.out.len : xs.length = 1)
          obtain ⟨vo, vc, rfl, -, -, hg⟩ := VA.out.slice
          obtain ⟨bl, rfl, hbl1, hbl2, x0, x1, x2, x3⟩ := hg 0 x rfl
          obtain ⟨u, a1, a2, a3, a4, a5, a6⟩ := VA.out.at (k := 0) (x := x) rfl
          have hnb := (VA.out.bat x (by simp)).2
          have hu : u = ⟨Bal.zero, bs⟩ := by
            simp only [ownS, List.getElem?_cons_zero, Option.some.injEq, Prod.mk.injEq] at a1
            exact a1.2.symm
          subst hu
          change x.len = bs.length at a5
          rw [BL.out] at a5
          obtain ⟨xa, hxa⟩ : ∃ xa, adOf x.xo = xa := ⟨_, rfl⟩
          obtain ⟨xcp, hxcp⟩ : ∃ xcp, x.cap = xcp := ⟨_, rfl⟩
          simp only [vsl, hxa, a5, hxcp] at x3 a6 hnb
          change wa.ownsRow wl.heap.size 5 1 (.slice xa xn xcp) xn (bs.map u8v) at a6
          have hbv : ∀ k, (Value.slice ao snb cap).ownBlock = some k → wa.heap.size ≤ k ∧ k < wb.heap.size := owns_lt SB.out
          have hbo : ∀ k, (Value.slice po xn pc).ownBlock = some k → wb.heap.size ≤ k ∧ k < wc.heap.size := owns_lt hpo
          have hbx' : ∀ k, (Value.slice xa xn xcp).ownBlock = some k → wl.heap.size ≤ k ∧ k < wa.heap.size := owns_lt a6
          obtain ⟨F, hF⟩ : ∃ F, (Value.slice ao snb cap).ownBlock.toList ++ (Value.slice po xn pc).ownBlock.toList ++ (Value.slice xa xn xcp).ownBlock.toList = F := ⟨_, rfl⟩
          have hFm : ∀ k, k ∈ F → (Value.slice ao snb cap).ownBlock = some k ∨ (Value.slice po xn pc).ownBlock = some k ∨ (Value.slice xa xn xcp).ownBlock = some k := fun k hk => by
            rw [← hF] at hk
            simpa [or_assoc] using hk
          have hFb : ∀ k ∈ F, wl.heap.size ≤ k ∧ k < wd.heap.size := fun k hk => by
            rcases hFm k hk with e | e | e
            · have := hbv k e; omega
            · have := hbo k e; omega
            · have := hbx' k e; omega
          have hFl : bl ∉ F := fun hm => by
            rcases hFm bl hm with e | e | e
            · have := hbv bl e; omega
            · have := hbo bl e; omega
            · exact hnb bl e rfl
          have hF17 : B17 ∉ F := fun hm => by
            rcases hFm B17 hm with e | e | e
            · have := hbv B17 e; omega
            · have := hbo B17 e; omega
            · have := hbx' B17 e; omega
          have nm3 : Nums3 wd ao snb po xn xa xn := ⟨nums_own (bs := cs) (owns_upd SB.out (huc.trans hal) (by simp)), nums_own (owns_upd hpo hal (by simp)), nums_own (owns_upd a6 uad (by simp))⟩
          have FM := hide (show (∀ b, 0 < snb → ao = some ⟨b, 0, none⟩ → b ∈ F) ∧ (∀ b, 0 < xn → po = some ⟨b, 0, none⟩ → b ∈ F) ∧ (∀ b, 0 < xn → xa = some ⟨b, 0, none⟩ → b ∈ F) from
            ⟨fun b _ e => by rw [← hF, e]; simp [Value.ownBlock], fun b _ e => by rw [← hF, e]; simp [Value.ownBlock], fun b _ e => by rw [← hF, e]; simp [Value.ownBlock]⟩)
          have K17 := hide (fun (wr : World) (hr : Upd F wd wr) => (show wr.cell? ⟨B17, 3, none⟩ = some (.slice po xn pc) from blk_cell (hr.get hbw hF17) rfl))
          have KX := hide (fun (wr : World) (hr : Upd F wd wr) => (show wr.cell? ⟨bl, 3, none⟩ = some (.slice xa xn xcp) from Rec.cell_keep (uad.mono (by simp) |>.trans hr) (by simpa using x3) hFl))
          obtain ⟨lgd, ffd⟩ := LGb.out.more (UA.out.trans uad) hFb
          have LGd := hide lgd; have FF := hide ffd
          have FB := hide (show ∀ k ∈ F, w.heap.size ≤ k from fun k hk => by have := (hFb k hk).1; have := WB.out; omega)
          have hqx := run_str (src_ownB (owns_upd a6 uad (by simp)))
          have hqv := run_str (src_ownB (bs := cs) (owns_upd SB.out (huc.trans hal) (by simp)))
          have hqo := run_str (src_ownB (owns_upd hpo hal (by simp)))
          have k17 := K17.out wd (Upd.refl _ _)
          have kx := KX.out wd (Upd.refl _ _)
          obtain ⟨qs1, qs2⟩ := strs_same bs
          obtain ⟨qs3, qs4⟩ := strs_same cs
          have NR := hide nm3
          have UR := hide (Upd.refl F wd)
          have MF := hide hmf
          simp only [List.length_singleton]
          clear hbw hal hszd hB17 uad hz1 hz2 hz3 hg hbl1 hbl2 x0 x1 x2 x3 a1 a2 a3 a4 a5 a6 hnb hxa hxcp hbv hbo hbx' hF hFm hFb hFl hF17 nm3 lgd ffd hpo huc hmf VA SB UAB UA UB LGb STb
          go_wp2_with fail
          go_loopw [19] (fun si wr => ∃ i : Nat, i ≤ snb ∧ si = .int .i64 i ∧ Nums3 wr ao snb po xn xa xn ∧ Upd F wd wr) (fun si _ => snb - (intOf si).toNat)
          case atStart => exact ⟨0, by omega, rfl, NR.out, UR.out⟩
          case round =>
            obtain ⟨i, hi, rfl, hnm, hur⟩ := hrel
            have UR := hide hur; have NR := hide hnm
            clear hur hnm
            skip
            by_cases hin : i < snb
            · have HI := hide hin
              obtain ⟨bq, u, e, hc, hf⟩ := NR.out.1 i hin
              have hm := FM.out.1 bq (by omega) e
              have d5 : decide ((i : Int) < (snb : Int)) = true := by simp; omega
              have d5' : decide (i < snb) = true := by simpa using hin
              subst e
              go_wp2_with fail
              go_roundw
              case rel => exact ⟨i + 1, by have := HI.out; omega, by go_num, NR.out.set _ _ _, UR.out.setCell (.inl hm) _⟩
              case measure => have := HI.out; simp [intOf]; omega
            · have d5 : decide ((i : Int) < (snb : Int)) = false := by simp; omega
              have d5' : decide (i < snb) = false := by simpa using hin
              clear hin
              rename World => wl
              go_wp2_with fail
              go_loopw [20] (fun si wr => ∃ i : Nat, i ≤ xn ∧ si = .int .i64 i ∧ Nums3 wr ao snb po xn xa xn ∧ Upd F wd wr) (fun si _ => xn - (intOf si).toNat)
              case atStart => exact ⟨0, by omega, rfl, NR.out, UR.out⟩
              case round =>
                obtain ⟨i, hi, rfl, hnm, hur⟩ := hrel
                have UR := hide hur; have NR := hide hnm
                clear hur hnm
                have k17 := K17.out wr UR.out
                by_cases hin : i < xn
                · have HI := hide hin
                  obtain ⟨bq, u, e, hc, hf⟩ := NR.out.2.1 i hin
                  have hm := FM.out.2.1 bq (by omega) e
                  have d5 : decide ((i : Int) < (xn : Int)) = true := by simp; omega
                  have d5' : decide (i < xn) = true := by simpa using hin
                  subst e
                  go_wp2_with fail
                  go_roundw
                  case rel => exact ⟨i + 1, by have := HI.out; omega, by go_num, NR.out.set _ _ _, UR.out.setCell (.inl hm) _⟩
                  case measure => have := HI.out; simp [intOf]; omega
                · have d5 : decide ((i : Int) < (xn : Int)) = false := by simp; omega
                  have d5' : decide (i < xn) = false := by simpa using hin
                  clear hin
                  rename World => wl
                  go_wp2_with fail
                  go_loopw [21] (fun si wr => ∃ i : Nat, i ≤ xn ∧ si = .int .i64 i ∧ Nums3 wr ao snb po xn xa xn ∧ Upd F wd wr) (fun si _ => xn - (intOf si).toNat)
                  case atStart => exact ⟨0, by omega, rfl, NR.out, UR.out⟩
                  case round =>
                    obtain ⟨i, hi, rfl, hnm, hur⟩ := hrel
                    have UR := hide hur; have NR := hide hnm
                    clear hur hnm
                    have kx := KX.out wr UR.out
                    by_cases hin : i < xn
                    · have HI := hide hin
                      obtain ⟨bq, u, e, hc, hf⟩ := NR.out.2.2 i hin
                      have hm := FM.out.2.2 bq (by omega) e
                      have d5 : decide ((i : Int) < (xn : Int)) = true := by simp; omega
                      have d5' : decide (i < xn) = true := by simpa using hin
                      subst e
                      go_wp2_with fail
                      go_roundw
                      case rel => exact ⟨i + 1, by have := HI.out; omega, by go_num, NR.out.set _ _ _, UR.out.setCell (.inl hm) _⟩
                      case measure => have := HI.out; simp [intOf]; omega
                    · have d5 : decide ((i : Int) < (xn : Int)) = false := by simp; omega
                      have d5' : decide (i < xn) = false := by simpa using hin
                      clear hin
                      rename World => wl
                      go_wp2_with fail
                      obtain ⟨bvc, soc, snc, scc, hstc⟩ := (LGd.out.aside UR.out FF.out FB.out).at_
                      have hsnc : snc = snb := by have h1 := hstc.snp.len; have h2 := CL.out; change cs.length = snc at h1; omega
                      subst hsnc
                      have STc := hide hstc
                      have UW := hide (LGd.out.aside UR.out FF.out FB.out).upd
                      clear hstc
                      refine (vote_any wl STc.out slot hs (by rw [MF.out]; have := BL.out; show bs.length ≤ 1000; omega)).mono ?_
                      rintro e we ⟨ro, rc, rfl, hro, hue⟩
                      rw [MF.out] at hro ⊢
                      simp only [Option.isSome_some, Option.getD_some, if_true] at hro ⊢
                      change we.ownsRow wl.heap.size 5 1 (.slice ro bs.length rc) bs.length (bs.map u8v) at hro
                      rw [BL.out] at hro ⊢
                      go_upto_region 35 with fail
                      have hbr := blk_new we (votC slot Bal.zero.n Bal.zero.r (.slice ro xn rc))
                      have har := (Upd.refl [] we).alloc (votC slot Bal.zero.n Bal.zero.r (.slice ro xn rc))
                      obtain ⟨B22, hB22⟩ : ∃ B22, we.heap.size = B22 := ⟨_, rfl⟩
                      rw [hB22] at hbr ⊢
                      generalize we.alloc (votC slot Bal.zero.n Bal.zero.r (.slice ro xn rc)) = wf at *
                      have k22 : wf.cell? ⟨B22, 3, none⟩ = some (.slice ro xn rc) := blk_cell hbr rfl
                      have hqr := run_str (src_ownB (owns_upd hro har (by simp)))
                      have UF := hide (hue.trans har)
                      have STf := hide (STc.out.upd_nil UF.out)
                      obtain ⟨qs1, qs2⟩ := strs_same bs
                      clear hro hbr har hue hB22
                      go_wp2_with fail
                      refine (snap_any wf STf.out (by omega)).mono ?_
                      rintro e wg ⟨⟨tq, tc, rfl, hto⟩, hug⟩
                      have hqt := run_str (src_ownB hto)
                      obtain ⟨qs3, qs4⟩ := strs_same cs
                      have UG := hide (UW.out.trans (UF.out.trans hug))
                      change (convert _ _ _).run _ _ = .ok (.string (strOf cs)) _ at hqt
                      clear hto hug
                      go_wp2_with fail
                      refine (wakes16_any wg (HST.out.upd UG.out (by simp))).mono ?_
                      rintro e wh ⟨rfl, huh⟩
                      have UH := hide (UG.out.trans huh)
                      clear huh
                      go_wp2_with fail
                      go_ret
                      exact ⟨rfl, UH.out⟩
end Go.Proofs.YtekbhfpdakhhkaaDoor.St
