/- session.Take. -/
import Derived.Test.YthpnnffogbjhpaaGreatDoorKvPure
import Derived.Test.YthpnnffogbjhpaaGreatDoorKvN
import Derived.Test.YthpnnffogbjhpaaGreatDoorVarAll
set_option linter.unusedSimpArgs false
set_option linter.unusedVariables false
set_option linter.unnecessarySimpa false
namespace Go.Proofs.YthpnnffogbjhpaaGreatDoor.Kv
set_option linter.unusedSimpArgs false
set_option linter.unusedVariables false
set_option linter.unnecessarySimpa false
open Go.RowKit Go.Lib Go.Proofs.YthpnnffogbjhpaaGreatDoor.Crc Go.Proofs.YthpnnffogbjhpaaGreatDoor.Cm Go.Proofs.YthpnnffogbjhpaaGreatDoor.Var

theorem tb_store {w : World} {g : Nat} {t : TM} {k : Nat} {x : La} (h : tbK.is w g t) (hk : k < 4294967296) (hn : t.length < maxLen) :
    ∃ w', (Instr.mapUpdate 108 (.map (some g)) (.int .u32 (k : Int)) (.agg #[.int .u32 (x.seq : Int), .int .u8 (x.r.code : Int), .string (strOf x.r.text)])).run Tryz.prog w = .ok () w' ∧ tbK.is w' g (mput cliK t k x) ∧ Upd [g] w w' :=
  MapKind.store (M := tbK) h (k := k) (v := x) hk trivial hn
theorem u32_mod (n : Nat) : IntKind.u32.wrap (n : Int) = ((n % 4294967296 : Nat) : Int) := by
  simp [IntKind.wrap, IntKind.bits, IntKind.signed]
theorem u8_mod (n : Nat) : IntKind.u8.wrap (n : Int) = ((n % 256 : Nat) : Int) := by
  simp [IntKind.wrap, IntKind.bits, IntKind.signed]
def STakeIs (w : World) (o : Option TM) (v : Value) (w' : World) : Prop := match o with
  | none => v = .pointer none
  | some t => ∃ b c g, v = .pointer (some ⟨b, 0, none⟩) ∧ TbIs w' b c g t ∧ w.heap.size ≤ b ∧ w.heap.size ≤ c ∧ w.heap.size ≤ g
set_option maxRecDepth 100000 in
set_option maxHeartbeats 4000000 in
theorem stake_any {T : Nat → Prop} {R lim : Nat} {s : Int × List UInt8} (w : World) (h : RdS w T R (lim : Int) s) (hR : R < w.heap.size) (hT : ∀ k, T k → k < w.heap.size) (hB : s.2.length ≤ 1000000) (hlim : lim ≤ 1000000) :
    Calls Tryz.prog 35 #[.pointer (some ⟨R, 0, none⟩)] w fun e w' => (∃ v, e = .returned (.tuple #[v, .int .i64 (sTakeK lim s).2.1]) ∧ STakeIs w (sTakeK lim s).1 v w') ∧ RdS w' T R (lim : Int) (sTakeK lim s).2.2 ∧ Upd [R] w w' := by
  have HR := hide h
  clear h
  obtain ⟨n, s1, e1⟩ : ∃ n s1, uintM s = (n, s1) := ⟨_, _, rfl⟩
  have hn := uintM_lt s
  have hl1 := uintM_len s
  rw [e1] at hn hl1
  simp only at hn hl1
  have E1 := hide e1
  clear e1
  go_enter Tryz.func35, Tryz.ntmps35
  go_wp2_with fail
  refine (tnew_any w).mono ?_
  rintro e w1 ⟨rfl, hs1, hu1⟩
  have S1 := hide hs1; have U1 := hide hu1; have R1 := hide (HR.out.upd hu1)
  clear hs1 hu1
  go_wp2_with fail
  refine (uint_s _ R1.out).mono ?_
  rw [E1.out]
  rintro e w2 ⟨rfl, hr2, hu2⟩
  have S2 := hide (S1.out.upd hu2 (by simp; omega) (by simp; omega) (by simp; omega)); have R2 := hide hr2; have U2 := hide ((U1.out.mono (by simp)).trans hu2)
  clear hr2 hu2 R1 S1
  simp only
  have hg0 : sTakeL lim n s1 [] 0 = sTakeL lim (uintM s).1 (uintM s).2 [] 0 := by rw [E1.out]
  obtain ⟨o, s9, e9⟩ : ∃ o s9, sTakeL lim n s1 [] 0 = (o, s9) := ⟨_, _, rfl⟩
  have hk9 : sTakeK lim s = sTakeF (o, s9) := by
    unfold sTakeK
    rw [← hg0, e9]
  have E9 := hide e9; have K9 := hide hk9
  clear hg0 e9 hk9
  go_wp2_with fail
  go_loopw [6, 7] (fun sl si wr => ∃ (k b : Nat) (t : TM) (q : Int × List UInt8), k ≤ n ∧ si = .int .u64 k ∧ sl = .int .u64 b ∧ TbIs wr (w.heap.size + 2) (w.heap.size + 1) w.heap.size t ∧ RdS wr T R (lim : Int) q ∧ sTakeL lim (n - k) q t b = (o, s9) ∧ t.length ≤ 1000001 ∧ q.2.length ≤ 1000000 ∧ (q.1 = 0 → t.length + q.2.length ≤ 1000000) ∧ Upd [R] w wr) (fun _ si _ => n - (RowKit.intOf si).toNat)
  case atStart => exact ⟨0, 0, [], s1, by omega, rfl, rfl, S2.out, R2.out, E9.out, by simp, by omega, fun _ => by simp; omega, U2.out⟩
  case round =>
    obtain ⟨k, b, t, ⟨er, rest⟩, hk, rfl, rfl, hs, hr, hg, hmk, hl, hl0, hu⟩ := hrel
    have HS := hide hs; have HR := hide hr; have HG := hide hg; have HU := hide hu
    clear hs hr hg hu S2 R2 U2
    simp only at hl hl0
    by_cases hlt : k < n
    · have q1 : decide ((k : Int) < (n : Int)) = true := by simp; omega
      have q1' : decide (k < n) = true := by simp; omega
      go_wp2_with fail
      refine (err_s _ HR.out).mono ?_
      rintro e w3 ⟨rfl, rfl⟩
      simp only
      by_cases he : er = 0
      · subst he
        have q2 : ((0 : Int) == 0) = true := rfl
        have hlm : List.length t + rest.length ≤ 1000000 := hl0 (by rfl)
        clear hl0
        obtain ⟨c1, t1, h1⟩ : ∃ c1 t1, uintM (0, rest) = (c1, t1) := ⟨_, _, rfl⟩
        obtain ⟨q1, t2, h2⟩ : ∃ q1 t2, uintM t1 = (q1, t2) := ⟨_, _, rfl⟩
        obtain ⟨d1, t3, h3⟩ : ∃ d1 t3, uintM t2 = (d1, t3) := ⟨_, _, rfl⟩
        obtain ⟨x1, ⟨e4, t4⟩, h4⟩ : ∃ x1 t4, textM lim t3 = (x1, t4) := ⟨_, _, rfl⟩
        have z1 := uintM_len (0, rest); have z2 := uintM_len t1; have z3 := uintM_len t2; have z4 := text_len (lim := lim) t3
        have y1 := uintM_lt (0, rest); have y2 := uintM_lt t1; have y3 := uintM_lt t2; have y4 := text_le (lim := lim) t3
        rw [h1] at z1 y1; rw [h2] at z2 y2; rw [h3] at z3 y3; rw [h4] at z4 y4
        simp only at z1 z2 z3 z4 y1 y2 y3 y4
        obtain ⟨j, hj⟩ : ∃ j, n - k = j + 1 := ⟨n - k - 1, by omega⟩
        have hg := HG.out
        rw [hj, sTakeL, if_neg (by simp)] at hg
        simp only [h1, h2, h3, h4] at hg
        have HG1 := hide hg; have H1 := hide h1; have H2 := hide h2; have H3 := hide h3; have H4 := hide h4
        clear hg h1 h2 h3 h4 HG
        go_wp2_with fail
        refine (uint_s _ HR.out).mono ?_
        rw [H1.out]
        rintro e w4 ⟨rfl, hr4, hu4⟩
        have HS4 := hide (HS.out.upd hu4 (by simp; omega) (by simp; omega) (by simp; omega)); have R4 := hide hr4; have U4 := hide (HU.out.trans hu4)
        clear hr4 hu4 HS HR HU
        simp only
        go_wp2_with fail
        refine (uint_s _ R4.out).mono ?_
        rw [H2.out]
        rintro e w5 ⟨rfl, hr5, hu5⟩
        have HS5 := hide (HS4.out.upd hu5 (by simp; omega) (by simp; omega) (by simp; omega)); have R5 := hide hr5; have U5 := hide (U4.out.trans hu5)
        clear hr5 hu5 HS4 R4 U4
        simp only
        go_wp2_with fail
        refine (uint_s _ R5.out).mono ?_
        rw [H3.out]
        rintro e w6 ⟨rfl, hr6, hu6⟩
        have HS6 := hide (HS5.out.upd hu6 (by simp; omega) (by simp; omega) (by simp; omega)); have R6 := hide hr6; have U6 := hide (U5.out.trans hu6)
        clear hr6 hu6 HS5 R5 U5
        simp only
        go_wp2_with fail
        refine (text_s _ R6.out hlim (by omega)).mono ?_
        rw [H4.out]
        rintro e w7 ⟨rfl, hr7, hu7⟩
        have HS7 := hide (HS6.out.upd hu7 (by simp; omega) (by simp; omega) (by simp; omega)); have R7 := hide hr7; have U7 := hide (U6.out.trans hu7)
        clear hr7 hu7 HS6 R6 U6
        simp only
        go_wp2_with fail
        refine (err_s _ R7.out).mono ?_
        rintro e w8 ⟨rfl, rfl⟩
        simp only
        obtain ⟨w9, hst, hm9, hu9⟩ := tb_store (x := ⟨q1 % 4294967296, ⟨d1 % 256, x1⟩⟩) HS7.out.map (k := c1 % 4294967296) (by omega) (by unfold maxLen; omega)
        have ST9 := hide (HS7.out.turn hu9 hm9); have V9 := hide hu9
        simp only at hst
        rw [show ((c1 % 4294967296 : Nat) : Int) = (c1 : Int) % 4294967296 by omega, show ((q1 % 4294967296 : Nat) : Int) = (q1 : Int) % 4294967296 by omega, show ((d1 % 256 : Nat) : Int) = (d1 : Int) % 256 by omega] at hst
        have c0 : w7.cell? ⟨w.heap.size + 2, 0, none⟩ = some (.pointer (some ⟨w.heap.size + 1, 0, none⟩)) := blk_cell HS7.out.blk rfl
        have c00 : w7.cell? ⟨w.heap.size + 1, 0, none⟩ = some (.map (some w.heap.size)) := blk_cell HS7.out.cli rfl
        clear hm9 hu9
        by_cases he2 : e4 = 0
        · subst he2
          by_cases hc : c1 ≤ b ∨ 4294967296 ≤ c1 ∨ 4294967296 ≤ q1 ∨ 3 < d1
          · have hg := HG1.out
            rw [if_pos ⟨rfl, hc⟩] at hg
            have HG2 := hide hg
            have HC := hide hc
            clear hg HG1 hc
            by_cases k1 : c1 ≤ b
            · have f1 : decide (c1 ≤ b) = true := decide_eq_true k1
              have f1' : decide ((c1 : Int) ≤ (b : Int)) = true := by simp; omega
              go_wp2_with fail
              have hq := K9.out
              have hg2 := HG2.out
              simp only [Prod.mk.injEq] at hg2
              rw [← hg2.1, ← hg2.2] at hq
              have hq2 : sTakeK lim s = (none, 11, (0, t4)) := hq
              go_ret2
              rw [hq2]
              exact ⟨⟨_, rfl, rfl⟩, R7.out, U7.out⟩
            · have f1 : decide (c1 ≤ b) = false := decide_eq_false k1
              have f1' : decide ((c1 : Int) ≤ (b : Int)) = false := by simp; omega
              by_cases k2 : 4294967296 ≤ c1
              · have f2 : decide (4294967296 ≤ (c1 : Int)) = true := by simp; omega
                go_wp2_with fail
                have hq := K9.out
                have hg2 := HG2.out
                simp only [Prod.mk.injEq] at hg2
                rw [← hg2.1, ← hg2.2] at hq
                have hq2 : sTakeK lim s = (none, 11, (0, t4)) := hq
                go_ret2
                rw [hq2]
                exact ⟨⟨_, rfl, rfl⟩, R7.out, U7.out⟩
              · have f2 : decide (4294967296 ≤ (c1 : Int)) = false := by simp; omega
                by_cases k3 : 4294967296 ≤ q1
                · have f3 : decide (4294967296 ≤ (q1 : Int)) = true := by simp; omega
                  go_wp2_with fail
                  have hq := K9.out
                  have hg2 := HG2.out
                  simp only [Prod.mk.injEq] at hg2
                  rw [← hg2.1, ← hg2.2] at hq
                  have hq2 : sTakeK lim s = (none, 11, (0, t4)) := hq
                  go_ret2
                  rw [hq2]
                  exact ⟨⟨_, rfl, rfl⟩, R7.out, U7.out⟩
                · have f3 : decide (4294967296 ≤ (q1 : Int)) = false := by simp; omega
                  have f4 : decide (3 < (d1 : Int)) = true := by have := ((HC.out.resolve_left k1).resolve_left k2).resolve_left k3; simp; omega
                  go_wp2_with fail
                  have hq := K9.out
                  have hg2 := HG2.out
                  simp only [Prod.mk.injEq] at hg2
                  rw [← hg2.1, ← hg2.2] at hq
                  have hq2 : sTakeK lim s = (none, 11, (0, t4)) := hq
                  go_ret2
                  rw [hq2]
                  exact ⟨⟨_, rfl, rfl⟩, R7.out, U7.out⟩
          · have hg := HG1.out
            rw [if_neg (fun h => hc h.2)] at hg
            have f1 : decide (c1 ≤ b) = false := by simp; omega
            have f2 : decide (4294967296 ≤ (c1 : Int)) = false := by simp; omega
            have f3 : decide (4294967296 ≤ (q1 : Int)) = false := by simp; omega
            have f4 : decide (3 < (d1 : Int)) = false := by simp; omega
            have HG2 := hide hg
            clear hg HG1 hc
            have V8 := hide (U7.out.trans_new V9.out (fun k hk => .inr (by simp at hk; omega)))
            have hlp := len_put_le (K := cliK) (l := t) (k := c1 % 4294967296) (v := (⟨q1 % 4294967296, ⟨d1 % 256, x1⟩⟩ : La))
            have hsz : t4.length < rest.length := by
              obtain ⟨x1, x2, x3⟩ := text_ok H4.out
              obtain ⟨d1, d2⟩ := t3
              obtain rfl : d1 = 0 := x1
              obtain ⟨x4, x5⟩ := uint_ok H3.out
              obtain ⟨d1, d3⟩ := t2
              obtain rfl : d1 = 0 := x4
              obtain ⟨x6, x7⟩ := uint_ok H2.out
              obtain ⟨d1, d4⟩ := t1
              obtain rfl : d1 = 0 := x6
              obtain ⟨x8, x9⟩ := uint_ok H1.out
              have y7 := uv_len_pos c1
              simp only at x2 x5 x7 x9
              rw [x9, x7, x5, x2]
              simp [txB]
              omega
            go_wp2_with fail
            exact ⟨⟨k + 1, c1, mput cliK t (c1 % 4294967296) ⟨q1 % 4294967296, ⟨d1 % 256, x1⟩⟩, (0, t4), by omega, by simp, rfl, ST9.out, R7.out.updS V9.out (by simp; omega) (fun x hx hTx => by simp at hx; have := hT x hTx; omega), by rw [show n - (k + 1) = j by omega]; exact HG2.out, by omega, by simp only; omega, fun _ => by simp only; omega, V8.out⟩, by simp [RowKit.intOf]; omega⟩
        · have q3 : (e4 == 0) = false := by simpa using he2
          have hg := HG1.out
          rw [if_neg (fun h => he2 h.1)] at hg
          have HG2 := hide hg
          clear hg HG1
          have V8 := hide (U7.out.trans_new V9.out (fun k hk => .inr (by simp at hk; omega)))
          have hlp := len_put_le (K := cliK) (l := t) (k := c1 % 4294967296) (v := (⟨q1 % 4294967296, ⟨d1 % 256, x1⟩⟩ : La))
          go_wp2_with fail
          exact ⟨⟨k + 1, c1, mput cliK t (c1 % 4294967296) ⟨q1 % 4294967296, ⟨d1 % 256, x1⟩⟩, (e4, t4), by omega, by simp, rfl, ST9.out, R7.out.updS V9.out (by simp; omega) (fun x hx hTx => by simp at hx; have := hT x hTx; omega), by rw [show n - (k + 1) = j by omega]; exact HG2.out, by omega, by simp only; omega, fun h => absurd h he2, V8.out⟩, by simp [RowKit.intOf]; omega⟩
      · have q2 : (er == 0) = false := by simpa using he
        have hg := HG.out
        rw [sTakeL_err _ _ _ _ he] at hg
        have HG1 := hide hg
        clear hg HG
        go_wp2_with fail
        refine (err_s _ HR.out).mono ?_
        rintro e w4 ⟨rfl, rfl⟩
        simp only
        have q4 : (er != 0) = true := by simpa using he
        go_wp2_with fail
        have hq := K9.out
        have hg2 := HG1.out
        simp only [Prod.mk.injEq] at hg2
        rw [← hg2.1, ← hg2.2] at hq
        have hq2 : sTakeK lim s = (none, er, (er, rest)) := by rw [hq, sTakeF, if_pos he]
        go_ret2
        rw [hq2]
        exact ⟨⟨_, rfl, rfl⟩, HR.out, HU.out⟩
    · have q1 : decide ((k : Int) < (n : Int)) = false := by simp; omega
      have q1' : decide (k < n) = false := by simp; omega
      have hg := HG.out
      rw [show n - k = 0 by omega] at hg
      have HG1 := hide hg
      clear hg HG
      go_wp2_with fail
      refine (err_s _ HR.out).mono ?_
      rintro e w4 ⟨rfl, rfl⟩
      simp only
      have hq := K9.out
      have hg2 := HG1.out
      simp only [sTakeL, Prod.mk.injEq] at hg2
      rw [← hg2.1, ← hg2.2] at hq
      by_cases he : er = 0
      · subst he
        have q4 : ((0 : Int) != 0) = false := rfl
        have hq2 : sTakeK lim s = (some t, 0, (0, rest)) := hq
        have HQ := hide hq2
        clear hq hq2 hg2
        go_wp2_with fail
        go_ret2
        rw [HQ.out]
        exact ⟨⟨_, rfl, _, _, _, rfl, HS.out, by omega, by omega, Nat.le_refl _⟩, HR.out, HU.out⟩
      · have q4 : (er != 0) = true := by simpa using he
        have hq2 : sTakeK lim s = (none, er, (er, rest)) := by rw [hq, sTakeF, if_pos he]
        have HQ := hide hq2
        clear hq hq2 hg2 he
        go_wp2_with fail
        go_ret2
        rw [HQ.out]
        exact ⟨⟨_, rfl, rfl⟩, HR.out, HU.out⟩
end Go.Proofs.YthpnnffogbjhpaaGreatDoor.Kv
