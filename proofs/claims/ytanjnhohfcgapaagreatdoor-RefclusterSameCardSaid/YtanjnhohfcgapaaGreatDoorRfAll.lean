/- RfG, RfS, RfQ, RfW in one text. -/
import Derived.Test.YtanjnhohfcgapaaGreatDoorRcNDR
import Derived.Test.YtanjnhohfcgapaaGreatDoorTrSA
import Derived.Test.YtanjnhohfcgapaaGreatDoorPureAll
import Derived.Test.YtanjnhohfcgapaaGreatDoorTrV
set_option linter.unusedSimpArgs false
set_option linter.unusedVariables false
set_option linter.unnecessarySimpa false
namespace Go.Proofs.YtanjnhohfcgapaaGreatDoor.Sg
open Go.RowKit Go.Proofs.YtanjnhohfcgapaaGreatDoor.Crc Go.Proofs.YtanjnhohfcgapaaGreatDoor.Cm Go.Proofs.YtanjnhohfcgapaaGreatDoor.Tr Go.Proofs.YtanjnhohfcgapaaGreatDoor.Kv Go.Proofs.YtanjnhohfcgapaaGreatDoor.Au
set_option linter.unusedSimpArgs false
set_option linter.unusedVariables false

abbrev cA (c : Cm) (ks : Value) : Array Value := #[.int .u32 (c.client : Int), .int .u32 (c.seq : Int), .int .u8 (c.kind : Int), ks, .string (strOf c.old), .string (strOf c.new), .int .i64 c.n]
/-- What is not great. -/
def GreatB (P : Prop) (e : Ending) : Prop := e = .returned (.bool true) ∨ (e = .returned (.bool false) ∧ P)
theorem all_get' {X : Type} {P : X → Prop} {l : List X} (h : ∀ (i : Nat) (x : X), l[i]? = some x → P x) : ∀ x ∈ l, P x := fun x hx => by
  obtain ⟨i, hi⟩ := List.mem_iff_getElem?.1 hx
  exact h i x hi
set_option maxRecDepth 100000 in
set_option maxHeartbeats 4000000 in
theorem great1_any {T : Nat → Prop} {c : Cm} {ks : Value} (w : World) (hk : Ky w T ks c) :
    Calls Tryz.prog 17 #[cmv c ks] w fun e w' => GreatB (c.keys.length ≤ 20) e ∧ Upd [] w w' := by
  obtain ⟨fit, hks⟩ := hk
  obtain ⟨xk, ck, rfl, k1, k2, hkg⟩ := hks.get
  simp only [maxLen] at k2
  obtain ⟨f0, f1, f2, f3, f4, f5, f6, f7, f8⟩ := fit
  have HKG := hide hkg
  have lo : (strOf c.old).size = c.old.length := by show c.old.toArray.size = _; simp
  have ln : (strOf c.new).size = c.new.length := by show c.new.toArray.size = _; simp
  clear hks hkg
  unfold cmv
  simp only [strV]
  go_enter Tryz.func17, Tryz.ntmps17
  by_cases g3 : 20 < c.keys.length
  · have d3 : decide ((20 : Int) < (c.keys.length : Int)) = true := by simp; omega
    go_wp2_with fail
    go_ret
    exact ⟨.inl rfl, (Upd.refl _ _).alloc _⟩
  have d3 : decide ((20 : Int) < (c.keys.length : Int)) = false := by simp; omega
  by_cases g4 : 80 < c.old.length
  · have d4 : decide ((80 : Int) < (c.old.length : Int)) = true := by simp; omega
    go_wp2_with fail
    go_ret
    exact ⟨.inl rfl, (Upd.refl _ _).alloc _⟩
  have d4 : decide ((80 : Int) < (c.old.length : Int)) = false := by simp; omega
  by_cases g5 : 80 < c.new.length
  · have d8 : decide ((80 : Int) < (c.new.length : Int)) = true := by simp; omega
    go_wp2_with fail
    go_ret
    exact ⟨.inl rfl, (Upd.refl _ _).alloc _⟩
  have d8 : decide ((80 : Int) < (c.new.length : Int)) = false := by simp; omega
  go_upto_region 4 with fail
  have hB := blk_new w (.cells (cA c (.slice xk c.keys.length ck)) Cm.TCmd)
  have hal := (Upd.refl [] w).alloc (.cells (cA c (.slice xk c.keys.length ck)) Cm.TCmd)
  change Code.wp _ _ _ _ (w.alloc (.cells (cA c (.slice xk c.keys.length ck)) Cm.TCmd))
  generalize w.alloc (.cells (cA c (.slice xk c.keys.length ck)) Cm.TCmd) = w3 at *
  obtain ⟨B, hBs⟩ : ∃ B, w.heap.size = B := ⟨_, rfl⟩
  rw [hBs] at hB ⊢
  have HB := hide hB; have HA := hide hal
  clear hB hal hBs
  go_loopw [3] (fun sj wq => ∃ j : Nat, j ≤ c.keys.length ∧ sj = .int .i64 j ∧ Upd [] w3 wq) (fun sj _ => c.keys.length - (RowKit.intOf sj).toNat)
  case atStart => exact ⟨0, by omega, rfl, Upd.refl _ _⟩
  case round =>
    obtain ⟨j, hj, rfl, hu⟩ := hrel
    have y3 : wr.cell? ⟨B, 3, none⟩ = some (.slice xk c.keys.length ck) := blk_cell (hu.get HB.out (by simp)) rfl
    have HU3 := hide hu
    clear hu
    by_cases hjl : j < c.keys.length
    · have d6 : decide ((j : Int) < c.keys.length) = true := by simp; omega
      have d6' : decide (j < c.keys.length) = true := by simpa using hjl
      obtain ⟨s, hs⟩ : ∃ s, c.keys[j]? = some s := ⟨_, List.getElem?_eq_getElem hjl⟩
      obtain ⟨bk, ok, rfl, hbk, hck⟩ := HKG.out j s hs
      have hck2 := cell_upd hck (HA.out.trans HU3.out) (by simp)
      have hsl := f8 s (List.mem_of_getElem? hs)
      have lk : (strOf s).size = s.length := by show s.toArray.size = _; simp
      clear hs hck
      by_cases g6 : 80 < s.length
      · have d7 : decide ((80 : Int) < (s.length : Int)) = true := by simp; omega
        go_wp2_with fail
        go_ret
        exact ⟨.inl rfl, HA.out.trans HU3.out⟩
      have d7 : decide ((80 : Int) < (s.length : Int)) = false := by simp; omega
      go_wp2_with fail
      go_roundw
      case rel => exact ⟨j + 1, by omega, by go_num, HU3.out⟩
      case measure => simp [RowKit.intOf]; omega
    · have d6 : decide ((j : Int) < c.keys.length) = false := decide_eq_false (by omega)
      have d6' : decide (j < c.keys.length) = false := decide_eq_false hjl
      go_wp2_with fail
      go_ret
      exact ⟨.inr ⟨rfl, by omega⟩, HA.out.trans HU3.out⟩
/-- Entries that a statement looks at. -/
def SmallE (l : List En) : Prop := l.length ≤ 400 ∧ ∀ e ∈ l, e.cmd.keys.length ≤ 20
set_option maxRecDepth 100000 in
set_option maxHeartbeats 4000000 in
theorem greatL_any {T : Nat → Prop} {vl : Value} {l : List En} (w : World) (hl : enK.row w T vl l) :
    Calls Tryz.prog 10 #[vl] w fun e w' => GreatB (SmallE l) e ∧ Upd [] w w' := by
  obtain ⟨xo, c, rfl, hc1, hc2, hget⟩ := en_get hl
  have HGET := hide hget
  simp only [maxLen] at hc2
  clear hl hget
  go_enter Tryz.func10, Tryz.ntmps10
  by_cases g1 : 400 < l.length
  · have d1 : decide ((400 : Int) < (l.length : Int)) = true := by simp; omega
    go_wp2_with fail
    go_ret
    exact ⟨.inl rfl, Upd.refl _ _⟩
  have d1 : decide ((400 : Int) < (l.length : Int)) = false := by simp; omega
  go_wp2_with fail
  go_loopw [3] (fun si wx => ∃ i : Nat, i ≤ l.length ∧ si = .int .i64 i ∧ Upd [] w wx ∧ ∀ j e, j < i → l[j]? = some e → e.cmd.keys.length ≤ 20) (fun si _ => l.length - (RowKit.intOf si).toNat)
  case atStart => exact ⟨0, by omega, rfl, Upd.refl _ _, fun j e h => by omega⟩
  case round =>
    obtain ⟨i, hi, rfl, hu, hall⟩ := hrel
    have HU := hide hu; have HALL := hide hall
    clear hu hall
    by_cases hlt : i < l.length
    · have e1 : decide ((i : Int) < l.length) = true := by simp; omega
      have e1' : decide (i < l.length) = true := by simpa using hlt
      obtain ⟨e, hei⟩ : ∃ e, l[i]? = some e := ⟨_, List.getElem?_eq_getElem hlt⟩
      obtain ⟨b, off, torn, pick, ka, kc, rfl, hbl, fit, hks, hcell⟩ := HGET.out i e hei
      have cc : ∀ j u, (enc e torn pick (.slice ka e.cmd.keys.length kc))[j]? = some u → wr.cell? ⟨b, off + i * 12 + j, none⟩ = some u := fun j u hj => cell_upd (hcell j u hj) HU.out (by simp)
      have x5 := cc 5 _ rfl; have x6 := cc 6 _ rfl; have x7 := cc 7 _ rfl; have x8 := cc 8 _ rfl; have x9 := cc 9 _ rfl; have x10 := cc 10 _ rfl; have x11 := cc 11 _ rfl
      simp only [strV] at x9 x10
      have KY := hide (show Ky wr T (.slice ka e.cmd.keys.length kc) e.cmd from ⟨fit, hks.upd HU.out (by simp)⟩)
      have HEI := hide hei
      clear cc hcell hks fit hei
      go_wp2_with fail
      refine (great1_any (c := e.cmd) (ks := .slice ka e.cmd.keys.length kc) wr KY.out).mono ?_
      rintro y w2 ⟨hy, hu2⟩
      have HU2 := hide hu2
      rcases hy with rfl | ⟨rfl, h20⟩
      · clear hu2
        go_wp2_with fail
        go_ret
        exact ⟨.inl rfl, HU.out.trans HU2.out⟩
      · clear hu2
        go_wp2_with fail
        go_roundw
        case rel => exact ⟨i + 1, by omega, by go_num, HU.out.trans HU2.out, fun j e' hj he' => by
          rcases Nat.lt_or_ge j i with h | h
          · exact HALL.out j e' h he'
          · rw [show j = i by omega, HEI.out] at he'; cases he'; exact h20⟩
        case measure => simp [RowKit.intOf]; omega
    · have e1 : decide ((i : Int) < l.length) = false := decide_eq_false (by omega)
      have e1' : decide (i < l.length) = false := decide_eq_false hlt
      go_wp2_with fail
      go_ret
      exact ⟨.inr ⟨rfl, by omega, all_get' fun j e he => HALL.out j e (by have := (List.getElem?_eq_some_iff.1 he).1; omega) he⟩, HU.out⟩
end Go.Proofs.YtanjnhohfcgapaaGreatDoor.Sg
namespace Go.Proofs.YtanjnhohfcgapaaGreatDoor.Sg
open Go.RowKit Go.Proofs.YtanjnhohfcgapaaGreatDoor.Crc Go.Proofs.YtanjnhohfcgapaaGreatDoor.Cm Go.Proofs.YtanjnhohfcgapaaGreatDoor.Tr Go.Proofs.YtanjnhohfcgapaaGreatDoor.Kv Go.Proofs.YtanjnhohfcgapaaGreatDoor.Au
set_option linter.unusedSimpArgs false
set_option linter.unusedVariables false

set_option maxRecDepth 100000 in
set_option maxHeartbeats 4000000 in
theorem sameTold_any {T U : Nat → Prop} {t : Tl} {va vd ub ud : Value} (w : World) (ha : anK.row w T va t.ans) (hd : Tr.cmK.row w T vd t.done) (hb : anK.row w U ub t.ans) (hf : Tr.cmK.row w U ud t.done) :
    Calls Tryz.prog 13 #[.agg #[.int .i64 t.r, .int .i64 t.e, va, vd], .agg #[.int .i64 t.r, .int .i64 t.e, ub, ud]] w fun e w' => e = .returned (.bool true) ∧ Upd [] w w' := by
  obtain ⟨xa, ca, rfl, a1, a2, hga⟩ := an_get ha
  obtain ⟨xb, cb, rfl, b1, b2, hgb⟩ := an_get hb
  obtain ⟨xd, cd, rfl⟩ := row_slice hd
  obtain ⟨xf, cf, rfl⟩ := row_slice hf
  have GA := hide hga; have GB := hide hgb; have DD := hide hd; have DF := hide hf
  simp only [maxLen] at a2 b2
  clear ha hd hb hf hga hgb
  go_enter Tryz.func13, Tryz.ntmps13
  go_upto_region 1 with fail
  have h0 := blk_alloc (blk_new w (.cells #[.int .i64 t.r, .int .i64 t.e, .slice xa t.ans.length ca, .slice xd t.done.length cd] TTd)) (.cells #[.int .i64 t.r, .int .i64 t.e, .slice xb t.ans.length cb, .slice xf t.done.length cf] TTd)
  have h1 := blk_new (w.alloc (.cells #[.int .i64 t.r, .int .i64 t.e, .slice xa t.ans.length ca, .slice xd t.done.length cd] TTd)) (.cells #[.int .i64 t.r, .int .i64 t.e, .slice xb t.ans.length cb, .slice xf t.done.length cf] TTd)
  have hal := ((Upd.refl [] w).alloc (.cells #[.int .i64 t.r, .int .i64 t.e, .slice xa t.ans.length ca, .slice xd t.done.length cd] TTd)).alloc (.cells #[.int .i64 t.r, .int .i64 t.e, .slice xb t.ans.length cb, .slice xf t.done.length cf] TTd)
  simp only [World.size_alloc] at h1
  change Code.wp _ _ _ _ ((w.alloc (.cells #[.int .i64 t.r, .int .i64 t.e, .slice xa t.ans.length ca, .slice xd t.done.length cd] TTd)).alloc (.cells #[.int .i64 t.r, .int .i64 t.e, .slice xb t.ans.length cb, .slice xf t.done.length cf] TTd))
  generalize (w.alloc (.cells #[.int .i64 t.r, .int .i64 t.e, .slice xa t.ans.length ca, .slice xd t.done.length cd] TTd)).alloc (.cells #[.int .i64 t.r, .int .i64 t.e, .slice xb t.ans.length cb, .slice xf t.done.length cf] TTd) = w1 at *
  obtain ⟨B, hBs⟩ : ∃ B, w.heap.size = B := ⟨_, rfl⟩
  rw [hBs] at h0 h1 ⊢
  obtain ⟨x0, x1, x2, x3, -⟩ := td_cells h0
  obtain ⟨y0, y1, y2, y3, -⟩ := td_cells h1
  have H0 := hide h0; have H1 := hide h1; have AL := hide hal
  clear h0 h1 hal hBs
  go_wp2_with fail
  refine (all_any w1 (Tr.cmK.row_upd DD.out AL.out (by simp)) (Tr.cmK.row_upd DF.out AL.out (by simp))).mono ?_
  rintro y w2 ⟨rfl, hu2⟩
  have U2 := hide (AL.out.trans hu2); have K0 := hide (hu2.get H0.out (by simp)); have K1 := hide (hu2.get H1.out (by simp))
  rw [decide_eq_true rfl]
  clear hu2 x0 x1 x2 x3 y0 y1 y2 y3 H0 H1 AL
  go_wp2_with fail
  go_loopw [5] (fun si wx => ∃ i : Nat, i ≤ t.ans.length ∧ si = .int .i64 i ∧ Upd [] w2 wx) (fun si _ => t.ans.length - (RowKit.intOf si).toNat)
  case atStart => exact ⟨0, by omega, rfl, Upd.refl _ _⟩
  case round =>
    obtain ⟨i, hi, rfl, hu⟩ := hrel
    have HU := hide hu
    obtain ⟨x0, x1, x2, x3, -⟩ := td_cells (hu.get K0.out (by simp))
    obtain ⟨y0, y1, y2, y3, -⟩ := td_cells (hu.get K1.out (by simp))
    clear hu x0 x1 x3 y0 y1 y3
    by_cases hlt : i < t.ans.length
    · have e1 : decide ((i : Int) < t.ans.length) = true := by simp; omega
      have e1' : decide (i < t.ans.length) = true := by simpa using hlt
      obtain ⟨a, hai⟩ : ∃ a, t.ans[i]? = some a := ⟨_, List.getElem?_eq_getElem hlt⟩
      obtain ⟨ba, oa, rfl, hba, -, hca⟩ := GA.out i a hai
      obtain ⟨bb, ob, rfl, hbb, -, hcb⟩ := GB.out i a hai
      have p := hca.upd (U2.out.trans HU.out) hba (by simp)
      have q := hcb.upd (U2.out.trans HU.out) hbb (by simp)
      have P : Hid (∀ n, Cells4 (wr.drewN n) ba (oa + i * 4) a) := hide fun n => p
      have Q : Hid (∀ n, Cells4 (wr.drewN n) bb (ob + i * 4) a) := hide fun n => q
      have X2 : ∀ n, (wr.drewN n).cell? ⟨B, 2, none⟩ = some (.slice (some ⟨ba, oa, none⟩) t.ans.length ca) := fun n => x2
      have Y2 : ∀ n, (wr.drewN n).cell? ⟨B + 1, 2, none⟩ = some (.slice (some ⟨bb, ob, none⟩) t.ans.length cb) := fun n => y2
      have p0 := fun n => (P.out n).1; have p1 := fun n => (P.out n).2.1; have p2 := fun n => (P.out n).2.2.1; have p3 := fun n => (P.out n).2.2.2
      have q0 := fun n => (Q.out n).1; have q1 := fun n => (Q.out n).2.1; have q2 := fun n => (Q.out n).2.2.1; have q3 := fun n => (Q.out n).2.2.2
      have ne := neq_an a a
      rw [decide_eq_true rfl] at ne
      have di0 : (0 : Int) ≤ (i : Int) := by omega
      have di1 : (i : Int) < (t.ans.length : Int) := by omega
      clear hca hcb hai p q
      go_upto_region 6 with fail
      go_quiet (fail)
      go_wp2_with fail
      go_roundw
      case rel => exact ⟨i + 1, by omega, by go_num, HU.out.drewN nq⟩
      case measure => simp [RowKit.intOf]; omega
    · have e1 : decide ((i : Int) < t.ans.length) = false := decide_eq_false (by omega)
      have e1' : decide (i < t.ans.length) = false := decide_eq_false hlt
      go_wp2_with fail
      go_ret
      exact ⟨rfl, U2.out.trans HU.out⟩
end Go.Proofs.YtanjnhohfcgapaaGreatDoor.Sg
namespace Go.Proofs.YtanjnhohfcgapaaGreatDoor.Sg
open Go.RowKit Go.Proofs.YtanjnhohfcgapaaGreatDoor.Crc Go.Proofs.YtanjnhohfcgapaaGreatDoor.Cm Go.Proofs.YtanjnhohfcgapaaGreatDoor.Tr Go.Proofs.YtanjnhohfcgapaaGreatDoor.Kv Go.Proofs.YtanjnhohfcgapaaGreatDoor.Au
set_option linter.unusedSimpArgs false
set_option linter.unusedVariables false

theorem EnvM.nil {w w' : World} (h : EnvM w (fun _ => False)) (hu : Upd [] w w') : EnvM w' (fun _ => False) := h.upd_nil hu
theorem tl_get {w : World} {T : Nat → Prop} {v : Value} {l : List Tl} (h : tlK.row w T v l) : ∃ (xo : Option Addr) (c : Nat), v = .slice xo l.length c ∧ l.length ≤ c ∧ c ≤ maxLen ∧
    ∀ i t, l[i]? = some t → ∃ b off va vd, xo = some ⟨b, off, none⟩ ∧ b < w.heap.size ∧ anK.row w T va t.ans ∧ Tr.cmK.row w T vd t.done ∧
      w.cell? ⟨b, off + i * 4, none⟩ = some (.int .i64 t.r) ∧ w.cell? ⟨b, off + i * 4 + 1, none⟩ = some (.int .i64 t.e) ∧ w.cell? ⟨b, off + i * 4 + 2, none⟩ = some va ∧ w.cell? ⟨b, off + i * 4 + 3, none⟩ = some vd := by
  obtain ⟨xo, c, rfl, h1, h2, hg⟩ := Row.get tlK.hz h
  refine ⟨xo, c, rfl, h1, h2, fun i t hi => ?_⟩
  obtain ⟨b, off, cs, rfl, hb, hT, ⟨va, vd, rfl, h3, h4⟩, -, hc⟩ := hg i t hi
  exact ⟨b, off, va, vd, rfl, hb, h3, h4, hc 0 _ rfl, hc 1 _ rfl, hc 2 _ rfl, hc 3 _ rfl⟩
set_option maxRecDepth 100000 in
set_option maxHeartbeats 4000000 in
theorem refsame_of (hwk : ∀ w, EnvM w (fun _ => False) → Calls Tryz.prog 11 #[] w fun e w' => e = .returned (.bool true) ∧ Upd [] w w') {T : Nat → Prop} {n : Int} {l : List En} {vl : Value} (w : World) (he : EnvM w (fun _ => False)) (hT : ∀ k, T k → k < w.heap.size) (hl : enK.row w T vl l) :
    Calls Tryz.prog 3 #[.int .i64 n, vl] w fun e w' => e = .returned (.bool true) ∧ Upd [] w w' := by
  obtain ⟨xo, c, rfl, -, -⟩ := en_get hl
  have WK := hide hwk; have HE := hide he; have HT := hide hT; have HL := hide hl
  clear hwk he hT hl
  go_enter Tryz.func3, Tryz.ntmps3
  go_wp2_with fail
  refine (greatL_any w HL.out).mono ?_
  rintro y w1 ⟨hy, hu1⟩
  have U1 := hide hu1
  clear hu1
  rcases hy with rfl | ⟨rfl, hsm⟩
  · go_wp2_with fail
    refine (WK.out w1 (HE.out.nil U1.out)).mono ?_
    rintro y w2 ⟨rfl, hu2⟩
    have U2 := hide (U1.out.trans hu2)
    clear hu2
    go_wp2_with fail
    go_ret
    exact ⟨rfl, U2.out⟩
  · have hlt : ∀ k, T k → k < w1.heap.size := fun k hk => Nat.lt_of_lt_of_le (HT.out k hk) U1.out.size
    obtain ⟨hs1, hs2⟩ := hsm
    have HS := hide (show ∀ e ∈ l, e.cmd.keys.length ≤ 1000000 from fun e he => Nat.le_trans (hs2 e he) (by omega))
    have HLT := hide hlt
    clear hs2 hlt
    go_wp2_with fail
    refine (run_any (n := n) w1 (HE.out.nil U1.out) HLT.out (enK.row_upd HL.out U1.out (by simp)) (by omega) HS.out).mono ?_
    rintro y w2 ⟨T2, v2, rfl, hr2, hu2, -, -⟩
    have R2 := hide hr2; have U2 := hide (U1.out.trans hu2)
    obtain ⟨told, htold⟩ : ∃ told, (runM n l).1 = told := ⟨_, rfl⟩
    obtain ⟨code, hcode⟩ : ∃ code, (runM n l).2 = code := ⟨_, rfl⟩
    have HTO := hide htold; have HCO := hide hcode
    rw [hcode]
    clear hr2 hu2 htold hcode
    go_wp2_with fail
    refine (run_any (n := n) w2 (HE.out.nil U2.out) (fun k hk => Nat.lt_of_lt_of_le (HT.out k hk) U2.out.size) (enK.row_upd HL.out U2.out (by simp)) (by omega) HS.out).mono ?_
    rintro y w3 ⟨T3, v3, rfl, hr3, hu3, -, -⟩
    have ha := tlK.row_upd R2.out hu3 (by simp)
    have U3 := hide (U2.out.trans hu3)
    rw [HTO.out] at ha hr3
    rw [HCO.out]
    obtain ⟨xa, ca, rfl, a1, a2, hga⟩ := tl_get ha
    obtain ⟨xb, cb, rfl, b1, b2, hgb⟩ := tl_get hr3
    have GA := hide hga; have GB := hide hgb
    simp only [maxLen] at a2 b2
    clear ha hr3 hu3 hga hgb R2
    go_wp2_with fail
    go_loopw [9] (fun si wx => ∃ i : Nat, i ≤ told.length ∧ si = .int .i64 i ∧ Upd [] w3 wx) (fun si _ => told.length - (RowKit.intOf si).toNat)
    case atStart => exact ⟨0, by omega, rfl, Upd.refl _ _⟩
    case round =>
      obtain ⟨i, hi, rfl, hu⟩ := hrel
      have HU := hide hu
      clear hu
      by_cases hlt : i < told.length
      · have e1 : decide ((i : Int) < told.length) = true := by simp; omega
        have e1' : decide (i < told.length) = true := by simpa using hlt
        obtain ⟨t, hti⟩ : ∃ t, told[i]? = some t := ⟨_, List.getElem?_eq_getElem hlt⟩
        obtain ⟨ba, oa, va, vd, rfl, hba, h1, h2, p0, p1, p2, p3⟩ := GA.out i t hti
        obtain ⟨bb, ob, ua, ud, rfl, hbb, h3, h4, q0, q1, q2, q3⟩ := GB.out i t hti
        obtain ⟨x1, n1, rfl⟩ := row_slice h1
        obtain ⟨x2, n2, rfl⟩ := row_slice h2
        obtain ⟨x3, n3, rfl⟩ := row_slice h3
        obtain ⟨x4, n4, rfl⟩ := row_slice h4
        have A1 := hide h1; have A2 := hide h2; have A3 := hide h3; have A4 := hide h4
        have di0 : (0 : Int) ≤ (i : Int) := by omega
        have di1 : (i : Int) < (told.length : Int) := by omega
        have P : Hid (∀ wx, Upd [] w3 wx → wx.cell? ⟨ba, oa + i * 4, none⟩ = some (.int .i64 t.r) ∧ wx.cell? ⟨ba, oa + i * 4 + 1, none⟩ = some (.int .i64 t.e) ∧ wx.cell? ⟨ba, oa + i * 4 + 2, none⟩ = some (.slice x1 t.ans.length n1) ∧ wx.cell? ⟨ba, oa + i * 4 + 3, none⟩ = some (.slice x2 t.done.length n2)) := hide fun wx hu => ⟨cell_upd p0 hu (by simp), cell_upd p1 hu (by simp), cell_upd p2 hu (by simp), cell_upd p3 hu (by simp)⟩
        have Q : Hid (∀ wx, Upd [] w3 wx → wx.cell? ⟨bb, ob + i * 4, none⟩ = some (.int .i64 t.r) ∧ wx.cell? ⟨bb, ob + i * 4 + 1, none⟩ = some (.int .i64 t.e) ∧ wx.cell? ⟨bb, ob + i * 4 + 2, none⟩ = some (.slice x3 t.ans.length n3) ∧ wx.cell? ⟨bb, ob + i * 4 + 3, none⟩ = some (.slice x4 t.done.length n4)) := hide fun wx hu => ⟨cell_upd q0 hu (by simp), cell_upd q1 hu (by simp), cell_upd q2 hu (by simp), cell_upd q3 hu (by simp)⟩
        clear h1 h2 h3 h4 p0 p1 p2 p3 q0 q1 q2 q3 hti
        go_upto_region 10 with fail
        go_cut [50] (fun s5 wx => s5 = .bool false ∧ Upd [] w3 wx)
        case first =>
          as_aux_lemma =>
          have s0 : Upd [] w3 (wr.drewN 1) := HU.out.drewN 1
          refine wp_region_z (fun wx => Upd [] w3 wx) 9 (by kernel_rfl) ?_
          refine zT 0 rfl (by kernel_rfl) (fun _ _ _ _ h => h) rfl (by exact s0) ?_
          apply Exists.intro
          refine ⟨fun wx hS => ?_, ?_⟩
          · go_simp; rfl
          simp only [Act.put, List.setIfInBounds_toArray, List.set_cons_succ, List.set_cons_zero, List.getElem_toArray, List.getElem_cons_zero]
          refine zT 1 rfl (by kernel_rfl) (fun _ _ _ _ h => h) rfl (by exact s0) ?_
          apply Exists.intro
          refine ⟨fun wx hS => ?_, ?_⟩
          · go_simp; rfl
          simp only [Act.put, zz1, zz2, zz3, zz4, zz5, zz6]
          refine zT 2 rfl (by kernel_rfl) (fun _ _ _ _ h => h) rfl (by exact s0) ?_
          apply Exists.intro
          refine ⟨fun wx hS => ?_, ?_⟩
          · go_simp; rfl
          simp only [Act.put, zz1, zz2, zz3, zz4, zz5, zz6]
          refine zT 3 rfl (by kernel_rfl) (fun _ _ _ _ h => h) rfl (by exact s0) ?_
          apply Exists.intro
          refine ⟨fun wx hS => ?_, ?_⟩
          · obtain ⟨c0, c1, c2, c3⟩ := P.out wx hS; go_simp; rfl
          simp only [Act.put, zz1, zz2, zz3, zz4, zz5, zz6]
          refine zT 4 rfl (by kernel_rfl) (fun _ _ _ _ h => h) rfl (by exact s0) ?_
          apply Exists.intro
          refine ⟨fun wx hS => ?_, ?_⟩
          · go_simp; rfl
          simp only [Act.put, zz1, zz2, zz3, zz4, zz5, zz6]
          refine zT 5 rfl (by kernel_rfl) (fun _ _ _ _ h => h) rfl (by exact s0) ?_
          apply Exists.intro
          refine ⟨fun wx hS => ?_, ?_⟩
          · go_simp; rfl
          simp only [Act.put, zz1, zz2, zz3, zz4, zz5, zz6]
          refine zT 6 rfl (by kernel_rfl) (fun _ _ _ _ h => h) rfl (by exact s0) ?_
          apply Exists.intro
          refine ⟨fun wx hS => ?_, ?_⟩
          · go_simp; rfl
          simp only [Act.put, zz1, zz2, zz3, zz4, zz5, zz6]
          refine zT 7 rfl (by kernel_rfl) (fun _ _ _ _ h => h) rfl (by exact s0) ?_
          apply Exists.intro
          refine ⟨fun wx hS => ?_, ?_⟩
          · obtain ⟨c0, c1, c2, c3⟩ := Q.out wx hS; go_simp; rfl
          simp only [Act.put, zz1, zz2, zz3, zz4, zz5, zz6]
          refine wpAnyZ_one 8 (by kernel_rfl) rfl rfl (fun K hK => ?_)
          try simp only [List.getElem_toArray, List.getElem_cons_succ, List.getElem_cons_zero]
          go_simp
          refine (sameTold_any (t := t) (wr.drewN 1) (anK.row_upd A1.out s0 (by simp)) (Tr.cmK.row_upd A2.out s0 (by simp)) (anK.row_upd A3.out s0 (by simp)) (Tr.cmK.row_upd A4.out s0 (by simp))).mono ?_
          rintro y w5 ⟨rfl, hu5⟩
          have s5 := s0.trans hu5
          refine hK _ _ (.inr s5) ?_
          clear hK K
          try simp only [Act.put, zz1, zz2, zz3]
          refine wpAnyZ_one 9 (by kernel_rfl) rfl rfl (fun K hK => ?_)
          try simp only [List.getElem_toArray, List.getElem_cons_succ, List.getElem_cons_zero]
          go_simp
          refine hK _ _ (.inl rfl) ?_
          clear hK K
          try simp only [Act.put, zz1, zz2, zz3]
          refine wpAnyZ_done (by kernel_rfl) ?_ _
          go_wp2_with fail
          go_meet
          exact ⟨rfl, s5⟩
        case rest =>
        rename World => w5
        obtain ⟨rfl, hu5⟩ := hcut
        have HU5 := hide hu5
        clear hu5
        go_wp2_with fail
        go_roundw
        case rel => exact ⟨i + 1, by omega, by go_num, HU5.out⟩
        case measure => simp [RowKit.intOf]; omega
      · have e1 : decide ((i : Int) < told.length) = false := decide_eq_false (by omega)
        have e1' : decide (i < told.length) = false := decide_eq_false hlt
        go_wp2_with fail
        have U5 := hide (U3.out.trans HU.out)
        refine (WK.out _ (HE.out.nil U5.out)).mono ?_
        rintro y w6 ⟨rfl, hu6⟩
        have U6 := hide (U5.out.trans hu6)
        clear hu6
        go_wp2_with fail
        go_ret
        exact ⟨rfl, U6.out⟩
end Go.Proofs.YtanjnhohfcgapaaGreatDoor.Sg
namespace Go.Proofs.YtanjnhohfcgapaaGreatDoor.Sg
open Go.RowKit Go.Proofs.YtanjnhohfcgapaaGreatDoor.Crc Go.Proofs.YtanjnhohfcgapaaGreatDoor.Cm Go.Proofs.YtanjnhohfcgapaaGreatDoor.Tr Go.Proofs.YtanjnhohfcgapaaGreatDoor.Kv Go.Proofs.YtanjnhohfcgapaaGreatDoor.Au
set_option linter.unusedSimpArgs false
set_option linter.unusedVariables false

theorem src_cs {w : World} {b n z : Nat} {cs : List Value} {t : TypeId} (h : w.heap[b]? = some (.cells cs.toArray t (0, 0))) (hn : cs.length = n * z) (h1 : ∀ u ∈ cs, u.oneCell' = true) : SrcAt w (some ⟨b, 0, none⟩) n n cs z := by
  refine ⟨hn, h1, by simp, fun a e j u hj => ?_⟩
  cases e
  rw [add_plain]
  exact blk_cell h (by simpa using hj)
theorem putC_fits : (putC 1).Fits := by
  refine ⟨by decide, by decide, by decide, by decide, by decide, by decide, by decide, by decide, fun k hk => ?_⟩
  simp [putC] at hk
  subst hk
  decide
set_option maxRecDepth 100000 in
set_option maxHeartbeats 2000000 in
theorem put24_any (w : World) : Calls Tryz.prog 50 #[.int .u32 1] w fun e w' => (∃ b, e = .returned (.agg #[.int .u32 1, .int .u32 1, .int .u8 1, .slice (some ⟨b, 0, none⟩) 1 1, .string (strOf []), .string (strOf [118]), .int .i64 0]) ∧ w.heap.size ≤ b ∧ b < w'.heap.size ∧ Strs w' (fun k => k = b) (.slice (some ⟨b, 0, none⟩) 1 1) [[107]]) ∧ Upd [] w w' := by
  go_enter Tryz.func50, Tryz.ntmps50
  go_wp2_with fail
  refine ret_cm1 (blk_alloc (blk_new w _) _) rfl rfl rfl ⟨⟨w.heap.size + 1, rfl, by omega, by simp, ?_⟩, ((Upd.refl [] w).alloc _).alloc _⟩
  refine ⟨_, _, rfl, src_cs (t := 9) (cs := [.string ⟨#[107]⟩]) ?_ rfl (by simp [Value.oneCell']), Nat.le_refl _, by simp [maxLen], fun a ha _ => by cases ha; rfl⟩
  have := blk_new (w.alloc (.cells #[.int .u32 1, .int .u32 1, .int .u8 1, .slice (some ⟨w.heap.size + 1, 0, none⟩) 1 1, .string ⟨#[]⟩, .string ⟨#[118]⟩, .int .i64 0] 43)) (.cells #[.string ⟨#[107]⟩] 9)
  rw [World.size_alloc] at this
  exact this
/-- An entry without a command. -/
def eZ (k : Nat) : List Value := [.int .u8 (k : Int), .int .i64 0, .int .i64 0, .int .i64 0, .int .u64 0, .int .u32 0, .int .u32 0, .int .u8 0, .slice none 0 0, .string ⟨#[]⟩, .string ⟨#[]⟩, .int .i64 0]
theorem eZ_holds (w : World) (T : Nat → Prop) (k : Nat) : enK.holds w T ⟨k, 0, 0, Cm.zero⟩ (eZ k) := ⟨zero_fits, 0, 0, _, rfl, Strs.nil w T⟩
def eP (b : Nat) : List Value := [.int .u8 1, .int .i64 0, .int .i64 0, .int .i64 0, .int .u64 0, .int .u32 1, .int .u32 1, .int .u8 1, .slice (some ⟨b, 0, none⟩) 1 1, .string (strOf []), .string (strOf [118]), .int .i64 0]
theorem eP_holds {w : World} {b : Nat} (h : Strs w (fun k => k = b) (.slice (some ⟨b, 0, none⟩) 1 1) [[107]]) : enK.holds w (fun k => k = b) ⟨1, 0, 0, putC 1⟩ (eP b) := ⟨putC_fits, 0, 0, _, rfl, h⟩
theorem infoEn : (Tryz.prog.info? TEn).map (fun i => (i.zero, i.size, i.bytes)) = some (some (.agg #[.int .u8 0, .int .i64 0, .int .i64 0, .int .i64 0, .int .u64 0, .int .u32 0, .int .u32 0, .int .u8 0, .slice none 0 0, .string ⟨#[]⟩, .string ⟨#[]⟩, .int .i64 0]), 12, 120) := by kernel_rfl
set_option maxRecDepth 100000 in
set_option maxHeartbeats 4000000 in
theorem wakes_any (w : World) (he : EnvM w (fun _ => False)) : Calls Tryz.prog 11 #[] w fun e w' => e = .returned (.bool true) ∧ Upd [] w w' := by
  have HE := hide he
  clear he
  obtain ⟨i1, hi1, iz0, iz1, iz2⟩ := info_parts infoEn
  go_enter Tryz.func11, Tryz.ntmps11
  go_wp2_with fail
  refine (put24_any w).mono ?_
  rintro y w1 ⟨⟨b, rfl, hb1, hb2, hs⟩, hu1⟩
  have U1 := hide hu1; have HS := hide hs; have HB := hide (show w.heap.size ≤ b from hb1); have HB2 := hide hb2
  clear hu1 hs hb1 hb2
  go_upto_region 3 with fail
  have hN := blk_new w1 (.cells (eP b ++ eZ 3).toArray TEn)
  have hal := (Upd.refl [] w1).alloc (.cells (eP b ++ eZ 3).toArray TEn)
  change Code.wp _ _ _ _ (w1.alloc (.cells (eP b ++ eZ 3).toArray TEn))
  obtain ⟨w2, hw2⟩ : ∃ w2, w1.alloc (.cells (eP b ++ eZ 3).toArray TEn) = w2 := ⟨_, rfl⟩
  rw [hw2] at hN hal ⊢
  obtain ⟨g, hg⟩ : ∃ g, w1.heap.size = g := ⟨_, rfl⟩
  have hz1 := U1.out.size
  have HG := hide (show w.heap.size ≤ g ∧ b < g by have := HB2.out; omega)
  rw [hg] at hN ⊢
  have O2 : Hid (Own w2 0 TEn 12 (enK.holds w2 (fun k => k = b)) (.slice (some ⟨g, 0, none⟩) 2 2) ([(⟨1, 0, 0, putC 1⟩ : En), ⟨3, 0, 0, Cm.zero⟩] ++ List.replicate 0 takeE)) := hide ⟨[eP b, eZ 3], .cons (eP_holds (HS.out.upd_nil hal)) (.cons (eZ_holds _ _ 3) .nil), by
      intro cs hc
      simp only [List.mem_cons, List.not_mem_nil, or_false] at hc
      rcases hc with rfl | rfl
      · exact ⟨rfl, by simp [eP, Value.oneCell']⟩
      · exact ⟨rfl, by simp [eZ, Value.oneCell']⟩, ⟨rfl, .inr ⟨g, 2, _, rfl, Nat.zero_le _, hN, Nat.le_refl _, by simp [maxLen], rfl, rfl⟩⟩⟩
  have U2 := hide (U1.out.trans hal); have HN2 := hide hN
  clear hN hal hw2 hg hz1
  go_loopw [1, 2] (fun s1 si wx => ∃ i : Nat, i ≤ 10 ∧ si = .int .i64 i ∧ Own wx 0 TEn 12 (enK.holds wx (fun k => k = b)) s1 ([(⟨1, 0, 0, putC 1⟩ : En), ⟨3, 0, 0, Cm.zero⟩] ++ List.replicate i takeE) ∧ (∀ k, s1.ownBlock = some k → w.heap.size ≤ k ∧ k ≠ b) ∧ b < wx.heap.size ∧ Upd [] w wx) (fun _ si _ => 10 - (RowKit.intOf si).toNat)
  case atStart => exact ⟨0, by omega, rfl, O2.out, fun k hk => by have h5 := HG.out; cases hk; exact ⟨h5.1, fun e => by have e' : g = b := e; omega⟩, by have := HG.out; have := blk_lt HN2.out; omega, U2.out⟩
  case round =>
    obtain ⟨i, hi, rfl, hO, hb, hbw, hu⟩ := hrel
    have HBW := hide hbw; clear hbw
    have HU := hide hu; have HBL := hide hb
    obtain ⟨css, hes, hbb, hown⟩ := hO
    obtain ⟨ao, cap, rfl, hc1, hc2, -⟩ := owns_slice hown
    have hlen : ([(⟨1, 0, 0, putC 1⟩ : En), ⟨3, 0, 0, Cm.zero⟩] ++ List.replicate i takeE).length = i + 2 := by simp
    rw [hlen] at hown hc1 HBL ⊢
    have HES := hide hes; have HBB := hide hbb
    simp only [maxLen] at hc2
    by_cases hlt : i < 10
    · have e1 : decide ((i : Int) < 10) = true := by simp; omega
      have hN := blk_new wr (.cells (eZ 4).toArray TEn)
      have hal := (Upd.refl [] wr).alloc (.cells (eZ 4).toArray TEn)
      obtain ⟨w3, hw3⟩ : ∃ w3, wr.alloc (.cells (eZ 4).toArray TEn) = w3 := ⟨_, rfl⟩
      have hw3' : wr.alloc (.cells #[.int .u8 4, .int .i64 0, .int .i64 0, .int .i64 0, .int .u64 0, .int .u32 0, .int .u32 0, .int .u8 0, .slice none 0 0, .string ⟨#[]⟩, .string ⟨#[]⟩, .int .i64 0] TEn) = w3 := hw3
      rw [hw3] at hN hal
      have SR := hide (src_cs (n := 1) (z := 12) (cs := eZ 4) hN rfl (by simp [eZ, Value.oneCell']))
      have HOW := hide (owns_upd hown hal (by simp)); have AL := hide hal
      clear hN hal hw3 hown hes hbb hb hu O2 U2
      go_wp2_with (at_builtin; go_must (refine wpList_append_src _ rfl _ _ 22 rfl 0 TEn i1 (.agg #[.int .u8 0, .int .i64 0, .int .i64 0, .int .i64 0, .int .u64 0, .int .u32 0, .int .u32 0, .int .u8 0, .slice none 0 0, .string ⟨#[]⟩, .string ⟨#[]⟩, .int .i64 0]) 12 120 Tryz.underlying22 hi1 iz0 iz1 iz2 rfl (by decide) (.slice ao (i + 2) cap) (i + 2) css.flatten rfl HOW.out (some ⟨wr.heap.size, 0, none⟩) 1 1 (eZ 4) rfl SR.out (by unfold maxLen; omega) (by omega) (by omega) ?_))
      intro ao7 cap7 w7 hown7 hU7 hn7
      have hbk : ∀ k ∈ (Value.slice ao (i + 2) cap).ownBlock.toList, k ≠ b := fun k hk => (HBL.out k (by simpa using hk)).2
      have hO7 : Own w7 0 TEn 12 (enK.holds w7 (fun k => k = b)) (.slice ao7 (i + 2 + 1) cap7) ([(⟨1, 0, 0, putC 1⟩ : En), ⟨3, 0, 0, Cm.zero⟩] ++ List.replicate (i + 1) takeE) := by
        rw [List.replicate_succ', ← List.append_assoc]
        exact Own.more (HES.out.mono (Q := enK.holds w7 (fun k => k = b)) fun y cs _ hy => enK.upd (enK.upd hy AL.out (by simp)) hU7 hbk) HBB.out (eZ_holds w7 _ 4) rfl (by simp [eZ, Value.oneCell']) (by rw [hlen]) hown7
      have O7 := hide hO7
      have B7 : Hid (∀ k, (Value.slice ao7 (i + 2 + 1) cap7).ownBlock = some k → w.heap.size ≤ k ∧ k ≠ b) := hide fun k hk => by
        rcases hn7 k hk with h5 | h5
        · exact HBL.out k h5
        · have := HU.out.size; have h6 := AL.out.size; have := HB2.out; have h8 := U1.out.size
          have h9 := HBW.out
          exact ⟨by omega, by omega⟩
      have U7 := hide ((HU.out.trans AL.out).trans_new hU7 fun k hk => .inr (HBL.out k (by simpa using hk)).1)
      have BW7 := hide (show b < w7.heap.size by have := HBW.out; have := AL.out.size; have := hU7.size; omega)
      clear hown7 hU7 hn7 hbk hO7 SR HOW hw3' HES HBB
      go_wp2_with fail
      go_roundw
      case rel => exact ⟨i + 1, by omega, by go_num, O7.out, B7.out, BW7.out, U7.out⟩
      case measure => simp [RowKit.intOf]; omega
    · have e1 : decide ((i : Int) < 10) = false := decide_eq_false (by omega)
      have ei : i = 10 := by omega
      subst ei
      have hN := blk_new wr (.cells (eZ 4 ++ eZ 9).toArray TEn)
      have hal := (Upd.refl [] wr).alloc (.cells (eZ 4 ++ eZ 9).toArray TEn)
      obtain ⟨w3, hw3⟩ : ∃ w3, wr.alloc (.cells (eZ 4 ++ eZ 9).toArray TEn) = w3 := ⟨_, rfl⟩
      have hw3' : wr.alloc (.cells #[.int .u8 4, .int .i64 0, .int .i64 0, .int .i64 0, .int .u64 0, .int .u32 0, .int .u32 0, .int .u8 0, .slice none 0 0, .string ⟨#[]⟩, .string ⟨#[]⟩, .int .i64 0, .int .u8 9, .int .i64 0, .int .i64 0, .int .i64 0, .int .u64 0, .int .u32 0, .int .u32 0, .int .u8 0, .slice none 0 0, .string ⟨#[]⟩, .string ⟨#[]⟩, .int .i64 0] TEn) = w3 := hw3
      rw [hw3] at hN hal
      have SR := hide (src_cs (n := 2) (z := 12) (cs := eZ 4 ++ eZ 9) hN rfl (by simp [eZ, Value.oneCell']))
      have HOW := hide (owns_upd hown hal (by simp)); have AL := hide hal
      clear hN hal hw3 hown hes hbb hb hu O2 U2
      go_wp2_with (at_builtin; go_must (refine wpList_append_src _ rfl _ _ 22 rfl 0 TEn i1 (.agg #[.int .u8 0, .int .i64 0, .int .i64 0, .int .i64 0, .int .u64 0, .int .u32 0, .int .u32 0, .int .u8 0, .slice none 0 0, .string ⟨#[]⟩, .string ⟨#[]⟩, .int .i64 0]) 12 120 Tryz.underlying22 hi1 iz0 iz1 iz2 rfl (by decide) (.slice ao (10 + 2) cap) (10 + 2) css.flatten rfl HOW.out (some ⟨wr.heap.size, 0, none⟩) 2 2 (eZ 4 ++ eZ 9) rfl SR.out (by unfold maxLen; omega) (by omega) (by omega) ?_))
      intro ao7 cap7 w7 hown7 hU7 hn7
      have hbk : ∀ k ∈ (Value.slice ao (10 + 2) cap).ownBlock.toList, k ≠ b := fun k hk => (HBL.out k (by simpa using hk)).2
      have hO7 : Own w7 0 TEn 12 (enK.holds w7 (fun k => k = b)) (.slice ao7 14 cap7) wkL := by
        rw [← wkL_eq]
        exact Own.mores (k := [takeE, ⟨9, 0, 0, Cm.zero⟩]) (kss := [eZ 4, eZ 9]) (HES.out.mono (Q := enK.holds w7 (fun k => k = b)) fun y cs _ hy => enK.upd (enK.upd hy AL.out (by simp)) hU7 hbk) HBB.out (.cons (eZ_holds w7 _ 4) (.cons (eZ_holds w7 _ 9) .nil)) (by simp [eZ]) (by simp [eZ, Value.oneCell']) (by rw [hlen]; rfl) hown7
      have hrow : enK.row w7 (fun k => k = b ∨ (Value.slice ao7 14 cap7).ownBlock = some k) (.slice ao7 14 cap7) wkL := hO7.row.mono (fun k hk => .inr hk) fun y cs _ hy => enK.mono hy fun k hk => .inl hk
      have ROW := hide hrow
      have U7 := hide ((HU.out.trans AL.out).trans_new hU7 fun k hk => .inr (HBL.out k (by simpa using hk)).1)
      have T7 := hide (show ∀ k, (k = b ∨ (Value.slice ao7 14 cap7).ownBlock = some k) → k < w7.heap.size from fun k hk => by
        rcases hk with rfl | hk
        · have := HBW.out; have := AL.out.size; have := hU7.size; omega
        · exact (Own.lt hO7 k hk).2)
      clear hown7 hU7 hn7 hbk hO7 hrow SR HOW hw3' HES HBB HBW HBL
      go_wp2_with fail
      refine (run_any (n := 3) (l := wkL) w7 (HE.out.nil U7.out) T7.out ROW.out (by decide) (by decide)).mono ?_
      rintro y w8 ⟨T8, v8, rfl, hr8, hu8, -, -⟩
      rw [wk_run.1]
      obtain ⟨told, htold⟩ : ∃ told, (runM 3 wkL).1 = told := ⟨_, rfl⟩
      rw [htold] at hr8
      have WAT : Hid (∀ (i : Nat) (t : Tl), told[i]? = some t → t.done.length ≤ 1 ∧ (∀ c ∈ t.done, c = putC 1) ∧ t.ans.length = t.done.length) := hide fun i t h => wk_at (by rw [htold]; exact h)
      have WSU : Hid (∀ (i : Nat) (t : Tl), told[i]? = some t → wkN (i + 1) = wkN i + t.done.length) := hide fun i t h => wkN_succ (by rw [htold]; exact h)
      have hlen13 : told.length = 13 := by rw [← htold]; exact wk_run.2
      have WE : Hid (told[12]?.map (·.e) = some 1 ∧ told[11]?.map (·.e) = some 0) := hide (by rw [← htold]; exact wk_ends)
      obtain ⟨xt, ct, rfl, t1, t2, hgt⟩ := tl_get hr8
      have GT := hide hgt; have U8 := hide (U7.out.trans hu8)
      rw [hlen13] at t1 ⊢
      simp only [maxLen] at t2
      clear hr8 hu8 hgt htold U7 T7 ROW U1 HS HB HB2 HG hlen AL HU
      go_wp2_with fail
      go_loopw [5, 6] (fun s5 si wx => ∃ i : Nat, i ≤ 13 ∧ si = .int .i64 i ∧ s5 = .int .i64 (wkN i) ∧ Upd [] w8 wx) (fun _ si _ => 13 - (RowKit.intOf si).toNat)
      case atStart => exact ⟨0, by omega, rfl, by rw [wkN_zero]; rfl, Upd.refl _ _⟩
      case round =>
        obtain ⟨i, hi, rfl, rfl, hu⟩ := hrel
        have HU := hide hu
        clear hu
        have hNi := wkN_le i
        by_cases hlt : i < 13
        · have e1 : decide ((i : Int) < 13) = true := by simp; omega
          obtain ⟨t, hti⟩ : ∃ t, told[i]? = some t := ⟨_, List.getElem?_eq_getElem (by omega)⟩
          obtain ⟨bt, ot, va, vd, rfl, hbt, h1, h2, p0, p1, p2, p3⟩ := GT.out i t hti
          obtain ⟨x1, n1, rfl⟩ := row_slice h1
          obtain ⟨xd, nd, rfl, k1, k2, hgd⟩ := Tr.cm_get h2
          obtain ⟨m1, m2, m3⟩ := WAT.out i t hti
          have GD := hide hgd; have M2 := hide m2; have M3 := hide m3; have HTI := hide hti
          have P : Hid (∀ wx, Upd [] w8 wx → wx.cell? ⟨bt, ot + i * 4 + 2, none⟩ = some (.slice x1 t.ans.length n1) ∧ wx.cell? ⟨bt, ot + i * 4 + 3, none⟩ = some (.slice xd t.done.length nd)) := hide fun wx hu => ⟨cell_upd p2 hu (by simp), cell_upd p3 hu (by simp)⟩
          have di0 : (0 : Int) ≤ (i : Int) := by omega
          have di1 : (i : Int) < (13 : Int) := by omega
          simp only [maxLen] at k2
          clear h1 h2 p0 p1 p2 p3 hgd m2 m3 hti
          go_wp2_with fail
          go_loopw [5, 7] (fun s5 sj wx => ∃ j : Nat, j ≤ t.done.length ∧ sj = .int .i64 j ∧ s5 = .int .i64 ((wkN i + j : Nat) : Int) ∧ Upd [] w8 wx) (fun _ sj _ => t.done.length - (RowKit.intOf sj).toNat)
          case atStart => exact ⟨0, by omega, rfl, rfl, HU.out⟩
          case round =>
            rename World => wq
            obtain ⟨j, hj, rfl, rfl, hu⟩ := hrel
            have HU2 := hide hu
            obtain ⟨c2, c3⟩ := P.out _ hu
            clear hu
            by_cases hjl : j < t.done.length
            · have e2 : decide ((j : Int) < t.done.length) = true := by simp; omega
              have e2' : decide (j < t.done.length) = true := by simpa using hjl
              obtain ⟨c, hcj⟩ : ∃ c, t.done[j]? = some c := ⟨_, List.getElem?_eq_getElem hjl⟩
              obtain ⟨bd, od, ka, kc, rfl, hbd, -, fit, hks, hc7⟩ := GD.out j c hcj
              have hcp : c = putC 1 := M2.out c (List.mem_of_getElem? hcj)
              have C7 : Hid (∀ wx, Upd [] w8 wx → Tr.Cells7 wx bd (od + j * 7) c ka kc) := hide fun wx hu => hc7.upd hu hbd (by simp)
              have KS := hide hks; have FIT := hide fit; have HCP := hide hcp
              have dj0 : (0 : Int) ≤ (j : Int) := by omega
              have dj1 : (j : Int) < (t.done.length : Int) := by omega
              have hNj : wkN i + j ≤ 20 := by omega
              clear hks fit hcp hc7 hcj
              go_upto_region 16 with fail
              clear c2 c3
              go_cut [73] (fun s73 wx => s73 = .bool false ∧ Upd [] w8 wx)
              case first =>
                as_aux_lemma =>
                have s0 : Upd [] w8 (wq.drewN 1) := HU2.out.drewN 1
                refine wp_region_z (fun wx => Upd [] w8 wx) 25 (by kernel_rfl) ?_
                refine zT 0 rfl (by kernel_rfl) (fun _ _ _ _ h => h) rfl (by exact s0) ?_
                apply Exists.intro
                refine ⟨fun wx hS => ?_, ?_⟩
                · go_simp; rfl
                simp only [Act.put, List.setIfInBounds_toArray, List.set_cons_succ, List.set_cons_zero, List.getElem_toArray, List.getElem_cons_zero]
                refine zT 1 rfl (by kernel_rfl) (fun _ _ _ _ h => h) rfl (by exact s0) ?_
                apply Exists.intro
                refine ⟨fun wx hS => ?_, ?_⟩
                · go_simp; rfl
                simp only [Act.put, zz1, zz2, zz3, zz4, zz5, zz6]
                refine zT 2 rfl (by kernel_rfl) (fun _ _ _ _ h => h) rfl (by exact s0) ?_
                apply Exists.intro
                refine ⟨fun wx hS => ?_, ?_⟩
                · go_simp; rfl
                simp only [Act.put, zz1, zz2, zz3, zz4, zz5, zz6]
                refine zT 3 rfl (by kernel_rfl) (fun _ _ _ _ h => h) rfl (by exact s0) ?_
                apply Exists.intro
                refine ⟨fun wx hS => ?_, ?_⟩
                · go_simp; rfl
                simp only [Act.put, zz1, zz2, zz3, zz4, zz5, zz6]
                refine zT 4 rfl (by kernel_rfl) (fun _ _ _ _ h => h) rfl (by exact s0) ?_
                apply Exists.intro
                refine ⟨fun wx hS => ?_, ?_⟩
                · obtain ⟨c2, c3⟩ := P.out wx hS; go_simp; rfl
                simp only [Act.put, zz1, zz2, zz3, zz4, zz5, zz6]
                refine zT 5 rfl (by kernel_rfl) (fun _ _ _ _ h => h) rfl (by exact s0) ?_
                apply Exists.intro
                refine ⟨fun wx hS => ?_, ?_⟩
                · go_simp; rfl
                simp only [Act.put, zz1, zz2, zz3, zz4, zz5, zz6]
                refine zT 6 rfl (by kernel_rfl) (fun _ _ _ _ h => h) rfl (by exact s0) ?_
                apply Exists.intro
                refine ⟨fun wx hS => ?_, ?_⟩
                · go_simp; rfl
                simp only [Act.put, zz1, zz2, zz3, zz4, zz5, zz6]
                refine zT 7 rfl (by kernel_rfl) (fun _ _ _ _ h => h) rfl (by exact s0) ?_
                apply Exists.intro
                refine ⟨fun wx hS => ?_, ?_⟩
                · obtain ⟨y0, y1, y2, y3, y4, y5, y6⟩ := C7.out wx hS; go_simp; rfl
                simp only [Act.put, zz1, zz2, zz3, zz4, zz5, zz6]
                refine wpAnyZ_one 8 (by kernel_rfl) rfl rfl (fun K hK => ?_)
                try simp only [List.getElem_toArray, List.getElem_cons_succ, List.getElem_cons_zero]
                go_simp
                refine (put24_any (wq.drewN 1)).mono ?_
                rintro y w5 ⟨⟨b5, rfl, -, -, hs5⟩, hu5⟩
                have s5 := s0.trans hu5
                have HS5 := hide hs5
                clear hs5 hu5 s0
                refine hK _ _ (.inr s5) ?_
                clear hK K
                try simp only [Act.put, zz1, zz2, zz3]
                refine wpAnyZ_one 9 (by kernel_rfl) rfl rfl (fun K hK => ?_)
                try simp only [List.getElem_toArray, List.getElem_cons_succ, List.getElem_cons_zero]
                go_simp
                refine (rsame_any (T := T8) (U := fun k => k = b5) (a := c) (b := putC 1) w5 ⟨FIT.out, _, rfl, KS.out.upd_nil s5⟩ ⟨putC_fits, _, rfl, HS5.out⟩).mono ?_
                rintro y w6 ⟨rfl, hu6⟩
                have s6 := s5.trans hu6
                rw [decide_eq_true HCP.out]
                clear s5 hu6
                refine hK _ _ (.inr s6) ?_
                clear hK K
                try simp only [Act.put, zz1, zz2, zz3]
                refine zT 10 rfl (by kernel_rfl) (fun _ _ _ _ h => h) rfl (by exact s6) ?_
                apply Exists.intro
                refine ⟨fun wx hS => ?_, ?_⟩
                · go_simp; rfl
                simp only [Act.put, zz1, zz2, zz3, zz4, zz5, zz6]
                refine zT 11 rfl (by kernel_rfl) (fun _ _ _ _ h => h) rfl (by exact s6) ?_
                apply Exists.intro
                refine ⟨fun wx hS => ?_, ?_⟩
                · go_simp; rfl
                simp only [Act.put, zz1, zz2, zz3, zz4, zz5, zz6]
                refine zT 12 rfl (by kernel_rfl) (fun _ _ _ _ h => h) rfl (by exact s6) ?_
                apply Exists.intro
                refine ⟨fun wx hS => ?_, ?_⟩
                · go_simp; rfl
                simp only [Act.put, zz1, zz2, zz3, zz4, zz5, zz6]
                refine zT 13 rfl (by kernel_rfl) (fun _ _ _ _ h => h) rfl (by exact s6) ?_
                apply Exists.intro
                refine ⟨fun wx hS => ?_, ?_⟩
                · go_simp; rfl
                simp only [Act.put, zz1, zz2, zz3, zz4, zz5, zz6]
                refine zT 14 rfl (by kernel_rfl) (fun _ _ _ _ h => h) rfl (by exact s6) ?_
                apply Exists.intro
                refine ⟨fun wx hS => ?_, ?_⟩
                · go_simp; rfl
                simp only [Act.put, zz1, zz2, zz3, zz4, zz5, zz6]
                refine zT 15 rfl (by kernel_rfl) (fun _ _ _ _ h => h) rfl (by exact s6) ?_
                apply Exists.intro
                refine ⟨fun wx hS => ?_, ?_⟩
                · go_simp; rfl
                simp only [Act.put, zz1, zz2, zz3, zz4, zz5, zz6]
                refine zT 16 rfl (by kernel_rfl) (fun _ _ _ _ h => h) rfl (by exact s6) ?_
                apply Exists.intro
                refine ⟨fun wx hS => ?_, ?_⟩
                · obtain ⟨c2, c3⟩ := P.out wx hS ; rw [M3.out] at c2; go_simp; rfl
                simp only [Act.put, zz1, zz2, zz3, zz4, zz5, zz6]
                refine zT 17 rfl (by kernel_rfl) (fun _ _ _ _ h => h) rfl (by exact s6) ?_
                apply Exists.intro
                refine ⟨fun wx hS => ?_, ?_⟩
                · go_simp; rfl
                simp only [Act.put, zz1, zz2, zz3, zz4, zz5, zz6]
                refine zT 18 rfl (by kernel_rfl) (fun _ _ _ _ h => h) rfl (by exact s6) ?_
                apply Exists.intro
                refine ⟨fun wx hS => ?_, ?_⟩
                · go_simp; rfl
                simp only [Act.put, zz1, zz2, zz3, zz4, zz5, zz6]
                refine zT 19 rfl (by kernel_rfl) (fun _ _ _ _ h => h) rfl (by exact s6) ?_
                apply Exists.intro
                refine ⟨fun wx hS => ?_, ?_⟩
                · go_simp; rfl
                simp only [Act.put, zz1, zz2, zz3, zz4, zz5, zz6]
                refine zT 20 rfl (by kernel_rfl) (fun _ _ _ _ h => h) rfl (by exact s6) ?_
                apply Exists.intro
                refine ⟨fun wx hS => ?_, ?_⟩
                · go_simp; rfl
                simp only [Act.put, zz1, zz2, zz3, zz4, zz5, zz6]
                refine zT 21 rfl (by kernel_rfl) (fun _ _ _ _ h => h) rfl (by exact s6) ?_
                apply Exists.intro
                refine ⟨fun wx hS => ?_, ?_⟩
                · go_simp; rfl
                simp only [Act.put, zz1, zz2, zz3, zz4, zz5, zz6]
                refine zT 22 rfl (by kernel_rfl) (fun _ _ _ _ h => h) rfl (by exact s6) ?_
                apply Exists.intro
                refine ⟨fun wx hS => ?_, ?_⟩
                · obtain ⟨c2, c3⟩ := P.out wx hS; go_simp; rfl
                simp only [Act.put, zz1, zz2, zz3, zz4, zz5, zz6]
                refine zT 23 rfl (by kernel_rfl) (fun _ _ _ _ h => h) rfl (by exact s6) ?_
                apply Exists.intro
                refine ⟨fun wx hS => ?_, ?_⟩
                · go_simp; rfl
                simp only [Act.put, zz1, zz2, zz3, zz4, zz5, zz6]
                refine zE 24 rfl (by kernel_rfl) (fun _ _ _ _ h => h) rfl (by exact s6) ?_
                apply Exists.intro
                refine ⟨fun wx hS => ?_, ?_⟩
                · go_simp; rfl
                simp only [Act.put, zz1, zz2, zz3, zz4, zz5, zz6]
                refine wpAnyZ_one 25 (by kernel_rfl) rfl rfl (fun K hK => ?_)
                try simp only [List.getElem_toArray, List.getElem_cons_succ, List.getElem_cons_zero]
                go_simp
                refine hK _ _ (.inl rfl) ?_
                clear hK K
                try simp only [Act.put, zz1, zz2, zz3]
                refine wpAnyZ_done (by kernel_rfl) ?_ _
                go_wp2_with fail
                go_meet
                exact ⟨rfl, s6⟩
              case rest =>
              rename World => w5
              obtain ⟨rfl, hu5⟩ := hcut
              have HU5 := hide hu5
              clear hu5
              go_wp2_with fail
              go_roundw
              case rel => exact ⟨j + 1, by omega, by go_num, by go_num, HU5.out⟩
              case measure => simp [RowKit.intOf]; omega
            · have e2 : decide ((j : Int) < t.done.length) = false := decide_eq_false (by omega)
              have e2' : decide (j < t.done.length) = false := decide_eq_false hjl
              have ej : j = t.done.length := by omega
              have hsum : wkN i + j = wkN (i + 1) := by rw [WSU.out i t HTI.out, ej]
              rw [hsum]
              have HU3 := HU2
              clear hsum c2
              go_wp2_with fail
              go_roundw
              case rel => exact ⟨i + 1, by omega, by go_num, rfl, HU3.out⟩
              case measure => simp [RowKit.intOf]; omega
        · have e1 : decide ((i : Int) < 13) = false := decide_eq_false (by omega)
          have ei : i = 13 := by omega
          subst ei
          rw [wkN_end]
          obtain ⟨ta, hta⟩ : ∃ t, told[12]? = some t := ⟨_, List.getElem?_eq_getElem (by omega)⟩
          obtain ⟨tb, htb⟩ : ∃ t, told[11]? = some t := ⟨_, List.getElem?_eq_getElem (by omega)⟩
          obtain ⟨ea, eb⟩ := WE.out
          rw [hta] at ea
          rw [htb] at eb
          have ea' : ta.e = 1 := by simpa using ea
          have eb' : tb.e = 0 := by simpa using eb
          obtain ⟨b1, o1, va, vd, rfl, hb1, -, -, p0, p1, p2, p3⟩ := GT.out 12 ta hta
          obtain ⟨b2, o2, ua, ud, he2, hb2, -, -, q0, q1, q2, q3⟩ := GT.out 11 tb htb
          cases he2
          rw [ea'] at p1
          rw [eb'] at q1
          have p1' := cell_upd p1 HU.out (by simp)
          have q1' := cell_upd q1 HU.out (by simp)
          clear p0 p1 p2 p3 q0 q1 q2 q3 hta htb ea eb
          go_wp2_with fail
          go_ret
          exact ⟨rfl, U8.out.trans HU.out⟩
end Go.Proofs.YtanjnhohfcgapaaGreatDoor.Sg
