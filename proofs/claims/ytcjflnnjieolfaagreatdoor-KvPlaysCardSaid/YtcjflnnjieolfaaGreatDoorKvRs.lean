/- quorateref09: swap. -/
import Derived.Test.YtcjflnnjieolfaaGreatDoorKvRm
namespace Go.Proofs.YtcjflnnjieolfaaGreatDoor.Kv
set_option linter.unusedSimpArgs false
set_option linter.unusedVariables false
set_option linter.unnecessarySimpa false
open Go.RowKit Go.Lib Go.Proofs.YtcjflnnjieolfaaGreatDoor.Crc Go.Proofs.YtcjflnnjieolfaaGreatDoor.Cm

/-- With, or nothing. -/
def rset (m : KM) (k : List UInt8) : Option (List UInt8) → KM
  | none => m
  | some v => mput strK m k v
theorem rise_rset {m : KM} (h : Rise strK m) (k : List UInt8) (o : Option (List UInt8)) : Rise strK (rset m k o) := by
  cases o with
  | none => exact h
  | some v => exact rise_put h
theorem mfind_rset {m : KM} {k j : List UInt8} {o : Option (List UInt8)} : mfind (rset m k o) j = if j = k ∧ o.isSome then o else mfind m j := by
  cases o with
  | none => simp [rset]
  | some v => simp [rset, mfind_put]
theorem mfind_set {m : KM} {k j : List UInt8} {o : Option (List UInt8)} : mfind (mset m k o) j = if j = k then o else mfind m j := by
  cases o with
  | none => simp [mset, mfind_del]
  | some v =>
    simp only [mset, mfind_put, mfind_del]
    split <;> rfl
theorem swap_eq {m : KM} (h : Rise strK m) (a b : List UInt8) : rset (rset (mdel (mdel m a) b) a (mfind m b)) b (mfind m a) = swapM m a b := by
  refine rise_ext (rise_rset (rise_rset (rise_del (rise_del h)) _ _) _ _) (rise_set (rise_set h)) fun j => ?_
  unfold swapM
  rw [mfind_rset, mfind_rset, mfind_set, mfind_set, mfind_del, mfind_del]
  by_cases hb : j = b
  · subst hb
    rw [if_pos rfl]
    cases ha : mfind m a with
    | some v => simp
    | none =>
      simp only [Option.isSome_none, and_false, Bool.false_eq_true, if_false, if_true]
      split
      · rename_i h1
        obtain ⟨rfl, h2⟩ := h1
        rw [ha] at h2
        cases h2
      · rfl
  · rw [if_neg (fun h => hb h.1), if_neg hb]
    by_cases ha : j = a
    · subst ha
      rw [if_pos rfl]
      cases hx : mfind m b with
      | some v => simp [hb]
      | none => simp [hb]
    · rw [if_neg (fun h => ha h.1), if_neg hb, if_neg ha, if_neg ha]
set_option maxRecDepth 100000 in
set_option maxHeartbeats 2000000 in
theorem rswap_any {T : Nat → Prop} {v : Value} {m : KM} {a b : List UInt8} (w : World) (h : pairK.row w T v m) (hr : Rise strK m) (hl : m.length ≤ 1000) :
    Calls Tryz.prog 51 #[v, .string (strOf a), .string (strOf b)] w fun e w' => (∃ v', e = .returned v' ∧ pairK.row w' (since w.heap.size w') v' (swapM m a b)) ∧ Upd [] w w' := by
  obtain ⟨xo, cp, rfl, h1, h2, hget⟩ := pair_get h
  simp only [maxLen] at h2
  rw [← swap_eq hr]
  have R0 := hide h; have HG := hide hget
  clear h hget hr
  obtain ⟨fa, hfa⟩ : ∃ o, mfind m a = o := ⟨_, rfl⟩
  obtain ⟨fb, hfb⟩ : ∃ o, mfind m b = o := ⟨_, rfl⟩
  obtain ⟨o0, ho0⟩ : ∃ o, mdel (mdel m a) b = o := ⟨_, rfl⟩
  have hl1 := len_del_le (l := m) (k := a)
  have hl2 := len_del_le (l := mdel m a) (k := b)
  rw [hfa, hfb, ho0]
  obtain ⟨o1, ho1⟩ : ∃ o, rset o0 a fb = o := ⟨_, rfl⟩
  rw [ho1]
  have HO1 := hide ho1
  have qn : decide ((0 : Int) ≤ -1) = false := by decide
  clear ho1
  have HFA := hide hfa; have HFB := hide hfb
  go_enter Tryz.func51, Tryz.ntmps51
  go_wp2_with fail
  refine (find_any (k := a) w R0.out).mono ?_
  rintro e w1 ⟨⟨i, rfl, hi⟩, rfl⟩
  have HI := hide hi
  clear hi
  go_wp2_with fail
  refine (find_any (k := b) w R0.out).mono ?_
  rintro e w1 ⟨⟨j, rfl, hj⟩, rfl⟩
  have HJ := hide hj
  clear hj
  go_wp2_with fail
  refine (without_any (k := a) w R0.out (by omega)).mono ?_
  rintro e w1 ⟨⟨v1, rfl, hb1⟩, hu1⟩
  have hr1 := pairK.bag_row hb1
  have R1 := hide hr1; have U1 := hide hu1
  obtain ⟨x1, c1, rfl, -, -⟩ := Row.slice hr1
  clear hr1 hu1
  go_wp2_with fail
  refine (without_any (k := b) w1 R1.out (by omega)).mono ?_
  rintro e w2 ⟨⟨v2, rfl, hb2⟩, hu2⟩
  have hr2 := pairK.bag_row hb2
  have hz1 := U1.out.size
  have R2 := hide (pairK.row_mono (U := since w.heap.size w2) hr2 (fun g hg => ⟨by have := hg.1; omega, hg.2⟩)); have U2 := hide (U1.out.trans hu2)
  rw [ho0] at R2
  obtain ⟨x2, c2, rfl, -, -⟩ := Row.slice R2.out
  clear hr2 hu2 R1 U1
  have hz2 := U2.out.size
  have ho0l : o0.length ≤ 1000 := by rw [← ho0]; omega
  rcases HJ.out with ⟨rfl, hn⟩ | ⟨jx, vy, rfl, hy, hfy⟩
  · have hfn : fb = none := HFB.out.symm.trans hn
    subst hfn
    have UT := U2
    obtain rfl : o0 = o1 := HO1.out
    have RT := R2
    have hrl : o0.length ≤ 1001 := by omega
    clear hn HJ R2 U2 HO1
    rcases HI.out with ⟨rfl, hn⟩ | ⟨ix, vx, rfl, hx, hfx⟩
    · have hfn : fa = none := HFA.out.symm.trans hn
      subst hfn
      clear hn HI
      go_wp2_with fail
      go_ret
      exact ⟨⟨_, rfl, RT.out⟩, UT.out⟩
    · have hfn : fa = some vx := HFA.out.symm.trans hfx
      subst hfn
      have hlt := (List.getElem?_eq_some_iff.1 hx).1
      obtain ⟨bx, ofx, ex, hbx, -, -, hcx⟩ := HG.out ix _ hx
      cases ex
      have q1 : decide ((0 : Int) ≤ (ix : Int)) = true := by simp
      have cx := cell_upd hcx UT.out (by simp)
      clear HI hx hfx hcx
      go_wp2_with fail
      refine (with_any (k := b) (x := vx) _ RT.out (by omega)).mono ?_
      rintro e w9 ⟨⟨v9, rfl, hr9⟩, hu9⟩
      have hzt := UT.out.size
      have R9 := hide (pairK.row_mono (U := since w.heap.size w9) hr9 (fun g hg => ⟨by have := hg.1; omega, hg.2⟩)); have U9 := hide (UT.out.trans hu9)
      obtain ⟨x9, c9, rfl, -, -⟩ := Row.slice hr9
      clear hr9 hu9
      go_wp2_with fail
      go_ret
      exact ⟨⟨_, rfl, R9.out⟩, U9.out⟩
  · have hfn : fb = some vy := HFB.out.symm.trans hfy
    subst hfn
    have hlt := (List.getElem?_eq_some_iff.1 hy).1
    obtain ⟨by1, ofy, ey, hby, -, -, hcy⟩ := HG.out jx _ hy
    have q1 : decide ((0 : Int) ≤ (jx : Int)) = true := by simp
    have cy := cell_upd hcy U2.out (by simp)
    have HEY := hide ey
    clear HJ hy hfy hcy ey
    obtain rfl := HEY.out
    go_wp2_with fail
    refine (with_any (k := a) (x := vy) _ R2.out (by omega)).mono ?_
    rintro e w3 ⟨⟨v3, rfl, hr3⟩, hu3⟩
    rw [show mput strK o0 a vy = o1 from HO1.out] at hr3
    have RT := hide (pairK.row_mono (U := since w.heap.size w3) hr3 (fun g hg => ⟨by have := hg.1; omega, hg.2⟩)); have UT := hide (U2.out.trans hu3)
    obtain ⟨x3, c3, rfl, -, -⟩ := Row.slice hr3
    have hrl : o1.length ≤ 1001 := by rw [← HO1.out]; have := len_put_le (K := strK) (l := o0) (k := a) (v := vy); show (mput strK o0 a vy).length ≤ 1001; omega
    clear hr3 hu3 R2 U2 cy q1
    rcases HI.out with ⟨rfl, hn⟩ | ⟨ix, vx, rfl, hx, hfx⟩
    · have hfn : fa = none := HFA.out.symm.trans hn
      subst hfn
      clear hn HI
      go_wp2_with fail
      go_ret
      exact ⟨⟨_, rfl, RT.out⟩, UT.out⟩
    · have hfn : fa = some vx := HFA.out.symm.trans hfx
      subst hfn
      have hlt := (List.getElem?_eq_some_iff.1 hx).1
      obtain ⟨bx, ofx, ex, hbx, -, -, hcx⟩ := HG.out ix _ hx
      cases ex
      have q1 : decide ((0 : Int) ≤ (ix : Int)) = true := by simp
      have cx := cell_upd hcx UT.out (by simp)
      clear HI hx hfx hcx
      go_wp2_with fail
      refine (with_any (k := b) (x := vx) _ RT.out (by omega)).mono ?_
      rintro e w9 ⟨⟨v9, rfl, hr9⟩, hu9⟩
      have hzt := UT.out.size
      have R9 := hide (pairK.row_mono (U := since w.heap.size w9) hr9 (fun g hg => ⟨by have := hg.1; omega, hg.2⟩)); have U9 := hide (UT.out.trans hu9)
      obtain ⟨x9, c9, rfl, -, -⟩ := Row.slice hr9
      clear hr9 hu9
      go_wp2_with fail
      go_ret
      exact ⟨⟨_, rfl, R9.out⟩, U9.out⟩
end Go.Proofs.YtcjflnnjieolfaaGreatDoor.Kv
