/- KvEn, KvTkW in one text. -/
import Derived.Test.YthpnnffogbjhpaaGreatDoorKvS
import Derived.Test.YthpnnffogbjhpaaGreatDoorKvPure
import Derived.Test.YthpnnffogbjhpaaGreatDoorKvN
import Derived.Test.YthpnnffogbjhpaaGreatDoorVarAll
import Derived.WideKeyEntry
set_option linter.unusedSimpArgs false
set_option linter.unusedVariables false
set_option linter.unnecessarySimpa false
namespace Go.Proofs.YthpnnffogbjhpaaGreatDoor.Kv
open Go.RowKit Go.Proofs.YthpnnffogbjhpaaGreatDoor.Crc Go.Proofs.YthpnnffogbjhpaaGreatDoor.Cm

theorem kv_entry {w : World} {g : Nat} {m : KM} {k v : List UInt8} (h : kvK.is w g m) (hk : k.length ≤ maxLen) (hv : v.length ≤ maxLen) (hn : m.length < maxLen) :
    ∃ v0 st wa w', (Instr.mapEntry 113 (.map (some g)) (.string (strOf k))).run Tryz.prog w = .ok (.tuple #[v0, goInt st]) wa ∧
      (Instr.entryStore 113 (.map (some g)) (.int .i64 st) (.string (strOf v))).run Tryz.prog wa = .ok () w' ∧ kvK.is w' g (mput strK m k v) ∧ Upd [g] w w' := by
  obtain ⟨w', hr, hm, hu⟩ := MapKind.store h (k := k) (v := v) hk hv hn
  have hlt := MapKind.is_lt h
  obtain ⟨es, clock, hb, F, hs, hd⟩ := h
  obtain ⟨v0, st, es1, clock1, h1, -, h2⟩ := WideElems.entry_then_store (WideMaps.string_law Tryz.underlying9) Tryz.underlying113 (z := .string (strOf [])) zeroStr hb F (kvK.hkey hk)
  have hw : (ChangeMaps.setBlock w g (.map es1 clock1)).heap[g]? = some (.map es1 clock1) := by
    simp [ChangeMaps.setBlock, hlt]
  obtain ⟨es', clock', h3, h4⟩ := h2 _ (.string (strOf v)) hw
  have e : ChangeMaps.setBlock (ChangeMaps.setBlock w g (.map es1 clock1)) g (.map es' clock') = ChangeMaps.setBlock w g (.map es' clock') := by
    simp [ChangeMaps.setBlock]
  have e2 : ChangeMaps.setBlock w g (.map es' clock') = w' := by
    have hr' : (Instr.mapUpdate 113 (.map (some g)) (.string (strOf k)) (.string (strOf v))).run Tryz.prog w = .ok () w' := hr
    have h4' : (Instr.mapUpdate 113 (.map (some g)) (.string (strOf k)) (.string (strOf v))).run Tryz.prog w = .ok () (ChangeMaps.setBlock w g (.map es' clock')) := h4
    rw [hr'] at h4'
    simp only [Result.ok.injEq, true_and] at h4'
    exact h4'.symm
  refine ⟨v0, st, _, w', h1, ?_, hm, hu⟩
  have h5 := h3
  rw [e, e2] at h5
  exact h5
end Go.Proofs.YthpnnffogbjhpaaGreatDoor.Kv
namespace Go.Proofs.YthpnnffogbjhpaaGreatDoor.Kv
set_option linter.unusedSimpArgs false
set_option linter.unusedVariables false
set_option linter.unnecessarySimpa false
open Go.RowKit Go.Lib Go.Proofs.YthpnnffogbjhpaaGreatDoor.Crc Go.Proofs.YthpnnffogbjhpaaGreatDoor.Cm Go.Proofs.YthpnnffogbjhpaaGreatDoor.Var

theorem strOf_toL (s : List UInt8) : (strOf s).toList = s := by
  simp [strOf]
def TakeIs (w : World) (o : Option KM) (v : Value) (w' : World) : Prop := match o with
  | none => v = .pointer none
  | some m => ∃ b g, v = .pointer (some ⟨b, 0, none⟩) ∧ StIs w' b g m ∧ w.heap.size ≤ b ∧ w.heap.size ≤ g
set_option maxRecDepth 100000 in
set_option maxHeartbeats 4000000 in
theorem take_any {T : Nat → Prop} {R lim : Nat} {s : Int × List UInt8} (w : World) (h : RdS w T R (lim : Int) s) (hR : R < w.heap.size) (hT : ∀ k, T k → k < w.heap.size) (hB : s.2.length ≤ 1000000) (hlim : lim ≤ 1000000) :
    Calls Tryz.prog 34 #[.pointer (some ⟨R, 0, none⟩)] w fun e w' => (∃ v, e = .returned (.tuple #[v, .int .i64 (takeK lim s).2.1]) ∧ TakeIs w (takeK lim s).1 v w') ∧ RdS w' T R (lim : Int) (takeK lim s).2.2 ∧ Upd [R] w w' := by
  have HR := hide h
  clear h
  obtain ⟨n, s1, e1⟩ : ∃ n s1, uintM s = (n, s1) := ⟨_, _, rfl⟩
  have hn := uintM_lt s
  have hl1 := uintM_len s
  rw [e1] at hn hl1
  simp only at hn hl1
  have E1 := hide e1
  clear e1
  go_enter Tryz.func34, Tryz.ntmps34
  go_wp2_with fail
  refine (new_any w).mono ?_
  rintro e w1 ⟨rfl, hs1, hu1⟩
  have S1 := hide hs1; have U1 := hide hu1; have R1 := hide (HR.out.upd hu1)
  clear hs1 hu1
  go_wp2_with fail
  refine (uint_s _ R1.out).mono ?_
  rw [E1.out]
  rintro e w2 ⟨rfl, hr2, hu2⟩
  have S2 := hide (S1.out.upd hu2 (by simp; omega) (by simp; omega)); have R2 := hide hr2; have U2 := hide ((U1.out.mono (by simp)).trans hu2)
  clear hr2 hu2 R1 S1
  simp only
  have hg0 : takeL lim n s1 [] [] = takeL lim (uintM s).1 (uintM s).2 [] [] := by rw [E1.out]
  obtain ⟨o, s9, e9⟩ : ∃ o s9, takeL lim n s1 [] [] = (o, s9) := ⟨_, _, rfl⟩
  have hk9 : takeK lim s = takeF (o, s9) := by
    unfold takeK
    rw [← hg0, e9]
  have E9 := hide e9; have K9 := hide hk9
  clear hg0 e9 hk9
  go_wp2_with fail
  go_loopw [6, 7] (fun sl si wr => ∃ (k : Nat) (last : List UInt8) (m : KM) (q : Int × List UInt8), k ≤ n ∧ si = .int .u64 k ∧ sl = .string (strOf last) ∧ StIs wr (w.heap.size + 1) w.heap.size m ∧ RdS wr T R (lim : Int) q ∧ takeL lim (n - k) q m last = (o, s9) ∧ m.length ≤ 1000001 ∧ q.2.length ≤ 1000000 ∧ (q.1 = 0 → m.length + q.2.length ≤ 1000000) ∧ Upd [R] w wr) (fun _ si _ => n - (RowKit.intOf si).toNat)
  case atStart => exact ⟨0, [], [], s1, by omega, rfl, rfl, S2.out, R2.out, E9.out, by simp, by omega, fun _ => by simp; omega, U2.out⟩
  case round =>
    obtain ⟨k, last, m, ⟨er, rest⟩, hk, rfl, rfl, hs, hr, hg, hmk, hl, hl0, hu⟩ := hrel
    have HS := hide hs; have HR := hide hr; have HG := hide hg; have HU := hide hu
    clear hs hr hg hu S2 R2 U2
    simp only at hl hl0
    by_cases hlt : k < n
    · have q1 : decide ((k : Int) < (n : Int)) = true := by simp; omega
      have q1' : decide (k < n) = true := by simp; omega
      go_wp2_with fail
      refine (err_s _ HR.out).mono ?_
      rintro e w3 ⟨rfl, rfl⟩
      simp only
      by_cases he : er = 0
      · subst he
        have q2 : ((0 : Int) == 0) = true := rfl
        have hlm : List.length m + rest.length ≤ 1000000 := hl0 (by rfl)
        clear hl0
        obtain ⟨k1, t1, h1⟩ : ∃ k1 t1, textM lim (0, rest) = (k1, t1) := ⟨_, _, rfl⟩
        obtain ⟨v1, ⟨e2, t2⟩, h2⟩ : ∃ v1 t2, textM lim t1 = (v1, t2) := ⟨_, _, rfl⟩
        have z1 := text_len (lim := lim) (0, rest); have z2 := text_len (lim := lim) t1
        have y1 := text_le (lim := lim) (0, rest); have y2 := text_le (lim := lim) t1
        rw [h1] at z1 y1; rw [h2] at z2 y2
        simp only at z1 z2 y1 y2
        obtain ⟨j, hj⟩ : ∃ j, n - k = j + 1 := ⟨n - k - 1, by omega⟩
        have hg := HG.out
        rw [hj, takeL, if_neg (by simp), h1] at hg
        simp only [h2] at hg
        have HG1 := hide hg; have H1 := hide h1; have H2 := hide h2
        clear hg h1 h2 HG
        go_wp2_with fail
        refine (text_s _ HR.out hlim (by simp only; omega)).mono ?_
        rw [H1.out]
        rintro e w4 ⟨rfl, hr4, hu4⟩
        have HS4 := hide (HS.out.upd hu4 (by simp; omega) (by simp; omega)); have R4 := hide hr4; have U4 := hide (HU.out.trans hu4)
        clear hr4 hu4 HS HR HU
        simp only
        go_wp2_with fail
        refine (text_s _ R4.out hlim (by omega)).mono ?_
        rw [H2.out]
        rintro e w5 ⟨rfl, hr5, hu5⟩
        have HS5 := hide (HS4.out.upd hu5 (by simp; omega) (by simp; omega)); have R5 := hide hr5; have U5 := hide (U4.out.trans hu5)
        clear hr5 hu5 HS4 R4 U4
        simp only
        go_wp2_with fail
        refine (err_s _ R5.out).mono ?_
        rintro e w6 ⟨rfl, rfl⟩
        simp only
        have f1 : (strOf k1).toList = k1 := strOf_toL k1
        have f2 : (strOf last).toList = last := strOf_toL last
        have f3 : (strOf k1).size = k1.length := strOf_size k1
        have f4 : (strOf v1).size = v1.length := strOf_size v1
        have c0 : w5.cell? ⟨w.heap.size + 1, 0, none⟩ = some (.map (some w.heap.size)) := blk_cell HS5.out.blk rfl
        have cf : w5.frozen? ⟨w.heap.size + 1, 0, none⟩ = false := blk_free HS5.out.blk
        obtain ⟨v0, st, wa, w7, hen, hst, hm, hu7⟩ := kv_entry HS5.out.map (k := k1) (v := v1) (by unfold maxLen; omega) (by unfold maxLen; omega) (by unfold maxLen; omega)
        have ST7 := hide (HS5.out.turn hu7 hm); have V7 := hide hu7
        clear hm hu7
        by_cases he2 : e2 = 0
        · subst he2
          by_cases hc : ¬ last < k1 ∨ 32 < k1.length ∨ 64 < v1.length
          · have hg := HG1.out
            rw [if_pos ⟨rfl, hc⟩] at hg
            have HG2 := hide hg
            have HC := hide hc
            clear hg HG1 hc
            by_cases hlk : last < k1
            · have f6 : Op.bytesLess k1 last = false := by rw [less_eq]; simp; exact fun h => lex_irrefl _ (lex_trans h hlk)
              have f7 : (k1 == last) = false := by simp; rintro rfl; exact lex_irrefl _ hlk
              by_cases h32 : 32 < k1.length
              · have f8 : decide (32 < ((k1.length : Nat) : Int)) = true := by simp; omega
                go_wp2_with fail
                have hq := K9.out
                have hg2 := HG2.out
                simp only [Prod.mk.injEq] at hg2
                rw [← hg2.1, ← hg2.2] at hq
                have hq2 : takeK lim s = (none, 11, (0, t2)) := hq
                go_ret2
                rw [hq2]
                exact ⟨⟨_, rfl, rfl⟩, R5.out, U5.out⟩
              · have f8 : decide (32 < ((k1.length : Nat) : Int)) = false := by simp; omega
                have f5 : decide (64 < ((v1.length : Nat) : Int)) = true := by have := (HC.out.resolve_left (fun h => h hlk)).resolve_left h32; simp; omega
                go_wp2_with fail
                have hq := K9.out
                have hg2 := HG2.out
                simp only [Prod.mk.injEq] at hg2
                rw [← hg2.1, ← hg2.2] at hq
                have hq2 : takeK lim s = (none, 11, (0, t2)) := hq
                go_ret2
                rw [hq2]
                exact ⟨⟨_, rfl, rfl⟩, R5.out, U5.out⟩
            · by_cases hke : k1 = last
              · have f6 : Op.bytesLess k1 last = false := by rw [less_eq, hke]; simp
                have f7 : (k1 == last) = true := by simpa using hke
                have HKE := hide hke
                clear hke
                go_wp2_with fail
                have hq := K9.out
                have hg2 := HG2.out
                simp only [Prod.mk.injEq] at hg2
                rw [← hg2.1, ← hg2.2] at hq
                have hq2 : takeK lim s = (none, 11, (0, t2)) := hq
                go_ret2
                rw [hq2]
                exact ⟨⟨_, rfl, rfl⟩, R5.out, U5.out⟩
              · have f6 : Op.bytesLess k1 last = true := by rw [less_eq]; simpa using (lex_total hke).resolve_right hlk
                clear hke
                go_wp2_with fail
                have hq := K9.out
                have hg2 := HG2.out
                simp only [Prod.mk.injEq] at hg2
                rw [← hg2.1, ← hg2.2] at hq
                have hq2 : takeK lim s = (none, 11, (0, t2)) := hq
                go_ret2
                rw [hq2]
                exact ⟨⟨_, rfl, rfl⟩, R5.out, U5.out⟩
          · have hg := HG1.out
            rw [if_neg (fun h => hc h.2)] at hg
            have hlk : last < k1 := Classical.byContradiction fun h => hc (Or.inl h)
            have hk32 : k1.length ≤ 32 := by omega
            have f5 : decide (64 < ((v1.length : Nat) : Int)) = false := by simp; omega
            have f6 : Op.bytesLess k1 last = false := by rw [less_eq]; simp; exact fun h => lex_irrefl _ (lex_trans h hlk)
            have f7 : (k1 == last) = false := by simp; rintro rfl; exact lex_irrefl _ hlk
            have f8 : decide (32 < ((k1.length : Nat) : Int)) = false := by simp; omega
            have HG2 := hide hg
            clear hg HG1 hc hlk
            go_wp2_with fail
            have V5 := hide (U5.out.trans_new V7.out (fun k hk => .inr (by simp at hk; omega)))
            have hlp := len_put_le (K := strK) (l := m) (k := k1) (v := v1)
            have hsz : t2.length < rest.length := by
              obtain ⟨x1, x2, x3⟩ := text_ok H2.out
              obtain ⟨d1, d2⟩ := t1
              obtain rfl : d1 = 0 := x1
              obtain ⟨x4, x5, x6⟩ := text_ok H1.out
              have x7 := uv_len_pos k1.length
              simp only at x2 x5
              rw [x5, x2]
              simp [txB]
              omega
            exact ⟨⟨k + 1, k1, mput strK m k1 v1, (0, t2), by omega, by simp, rfl, ST7.out, R5.out.updS V7.out (by simp; omega) (fun x hx hTx => by simp at hx; have := hT x hTx; omega), by rw [show n - (k + 1) = j by omega]; exact HG2.out, by omega, by simp only; omega, fun _ => by simp only; omega, V5.out⟩, by simp [RowKit.intOf]; omega⟩
        · have q3 : (e2 == 0) = false := by simpa using he2
          have hg := HG1.out
          rw [if_neg (fun h => he2 h.1)] at hg
          have HG2 := hide hg
          clear hg HG1
          go_wp2_with fail
          have V5 := hide (U5.out.trans_new V7.out (fun k hk => .inr (by simp at hk; omega)))
          have hlp := len_put_le (K := strK) (l := m) (k := k1) (v := v1)
          exact ⟨⟨k + 1, k1, mput strK m k1 v1, (e2, t2), by omega, by simp, rfl, ST7.out, R5.out.updS V7.out (by simp; omega) (fun x hx hTx => by simp at hx; have := hT x hTx; omega), by rw [show n - (k + 1) = j by omega]; exact HG2.out, by omega, by simp only; omega, fun h => absurd h he2, V5.out⟩, by simp [RowKit.intOf]; omega⟩
      · have q2 : (er == 0) = false := by simpa using he
        have hg := HG.out
        rw [takeL_err _ _ _ _ he] at hg
        have HG1 := hide hg
        clear hg HG
        go_wp2_with fail
        refine (err_s _ HR.out).mono ?_
        rintro e w4 ⟨rfl, rfl⟩
        simp only
        have q4 : (er != 0) = true := by simpa using he
        go_wp2_with fail
        have hq := K9.out
        have hg2 := HG1.out
        simp only [Prod.mk.injEq] at hg2
        rw [← hg2.1, ← hg2.2] at hq
        have hq2 : takeK lim s = (none, er, (er, rest)) := by rw [hq, takeF, if_pos he]
        go_ret2
        rw [hq2]
        exact ⟨⟨_, rfl, rfl⟩, HR.out, HU.out⟩
    · have q1 : decide ((k : Int) < (n : Int)) = false := by simp; omega
      have q1' : decide (k < n) = false := by simp; omega
      have hg := HG.out
      rw [show n - k = 0 by omega] at hg
      have HG1 := hide hg
      clear hg HG
      go_wp2_with fail
      refine (err_s _ HR.out).mono ?_
      rintro e w4 ⟨rfl, rfl⟩
      simp only
      have hq := K9.out
      have hg2 := HG1.out
      simp only [takeL, Prod.mk.injEq] at hg2
      rw [← hg2.1, ← hg2.2] at hq
      by_cases he : er = 0
      · subst he
        have q4 : ((0 : Int) != 0) = false := rfl
        have hq2 : takeK lim s = (some m, 0, (0, rest)) := hq
        have HQ := hide hq2
        clear hq hq2 hg2
        go_wp2_with fail
        go_ret2
        rw [HQ.out]
        exact ⟨⟨_, rfl, _, _, rfl, HS.out, by omega, Nat.le_refl _⟩, HR.out, HU.out⟩
      · have q4 : (er != 0) = true := by simpa using he
        have hq2 : takeK lim s = (none, er, (er, rest)) := by rw [hq, takeF, if_pos he]
        have HQ := hide hq2
        clear hq hq2 hg2 he
        go_wp2_with fail
        go_ret2
        rw [HQ.out]
        exact ⟨⟨_, rfl, rfl⟩, HR.out, HU.out⟩
end Go.Proofs.YthpnnffogbjhpaaGreatDoor.Kv
