/- KvRs, KvRu in one text. -/
import Derived.Test.YthpnnffogbjhpaaGreatDoorKvRnm
set_option linter.unusedSimpArgs false
set_option linter.unusedVariables false
set_option linter.unnecessarySimpa false
namespace Go.Proofs.YthpnnffogbjhpaaGreatDoor.Kv
set_option linter.unusedSimpArgs false
set_option linter.unusedVariables false
set_option linter.unnecessarySimpa false
open Go.RowKit Go.Lib Go.Proofs.YthpnnffogbjhpaaGreatDoor.Crc Go.Proofs.YthpnnffogbjhpaaGreatDoor.Cm

/-- With, or nothing. -/
def rset (m : KM) (k : List UInt8) : Option (List UInt8) → KM
  | none => m
  | some v => mput strK m k v
theorem rise_rset {m : KM} (h : Rise strK m) (k : List UInt8) (o : Option (List UInt8)) : Rise strK (rset m k o) := by
  cases o with
  | none => exact h
  | some v => exact rise_put h
theorem mfind_rset {m : KM} {k j : List UInt8} {o : Option (List UInt8)} : mfind (rset m k o) j = if j = k ∧ o.isSome then o else mfind m j := by
  cases o with
  | none => simp [rset]
  | some v => simp [rset, mfind_put]
theorem mfind_set {m : KM} {k j : List UInt8} {o : Option (List UInt8)} : mfind (mset m k o) j = if j = k then o else mfind m j := by
  cases o with
  | none => simp [mset, mfind_del]
  | some v =>
    simp only [mset, mfind_put, mfind_del]
    split <;> rfl
theorem swap_eq {m : KM} (h : Rise strK m) (a b : List UInt8) : rset (rset (mdel (mdel m a) b) a (mfind m b)) b (mfind m a) = swapM m a b := by
  refine rise_ext (rise_rset (rise_rset (rise_del (rise_del h)) _ _) _ _) (rise_set (rise_set h)) fun j => ?_
  unfold swapM
  rw [mfind_rset, mfind_rset, mfind_set, mfind_set, mfind_del, mfind_del]
  by_cases hb : j = b
  · subst hb
    rw [if_pos rfl]
    cases ha : mfind m a with
    | some v => simp
    | none =>
      simp only [Option.isSome_none, and_false, Bool.false_eq_true, if_false, if_true]
      split
      · rename_i h1
        obtain ⟨rfl, h2⟩ := h1
        rw [ha] at h2
        cases h2
      · rfl
  · rw [if_neg (fun h => hb h.1), if_neg hb]
    by_cases ha : j = a
    · subst ha
      rw [if_pos rfl]
      cases hx : mfind m b with
      | some v => simp [hb]
      | none => simp [hb]
    · rw [if_neg (fun h => ha h.1), if_neg hb, if_neg ha, if_neg ha]
set_option maxRecDepth 100000 in
set_option maxHeartbeats 2000000 in
theorem rswap_any {T : Nat → Prop} {v : Value} {m : KM} {a b : List UInt8} (w : World) (h : pairK.row w T v m) (hr : Rise strK m) (hl : m.length ≤ 1000) :
    Calls Tryz.prog 74 #[v, .string (strOf a), .string (strOf b)] w fun e w' => (∃ v', e = .returned v' ∧ pairK.row w' (since w.heap.size w') v' (swapM m a b)) ∧ Upd [] w w' := by
  obtain ⟨xo, cp, rfl, h1, h2, hget⟩ := pair_get h
  simp only [maxLen] at h2
  rw [← swap_eq hr]
  have R0 := hide h; have HG := hide hget
  clear h hget hr
  obtain ⟨fa, hfa⟩ : ∃ o, mfind m a = o := ⟨_, rfl⟩
  obtain ⟨fb, hfb⟩ : ∃ o, mfind m b = o := ⟨_, rfl⟩
  obtain ⟨o0, ho0⟩ : ∃ o, mdel (mdel m a) b = o := ⟨_, rfl⟩
  have hl1 := len_del_le (l := m) (k := a)
  have hl2 := len_del_le (l := mdel m a) (k := b)
  rw [hfa, hfb, ho0]
  obtain ⟨o1, ho1⟩ : ∃ o, rset o0 a fb = o := ⟨_, rfl⟩
  rw [ho1]
  have HO1 := hide ho1
  have qn : decide ((0 : Int) ≤ -1) = false := by decide
  clear ho1
  have HFA := hide hfa; have HFB := hide hfb
  go_enter Tryz.func74, Tryz.ntmps74
  go_wp2_with fail
  refine (find_any (k := a) w R0.out).mono ?_
  rintro e w1 ⟨⟨i, rfl, hi⟩, rfl⟩
  have HI := hide hi
  clear hi
  go_wp2_with fail
  refine (find_any (k := b) w R0.out).mono ?_
  rintro e w1 ⟨⟨j, rfl, hj⟩, rfl⟩
  have HJ := hide hj
  clear hj
  go_wp2_with fail
  refine (without_any (k := a) w R0.out (by omega)).mono ?_
  rintro e w1 ⟨⟨v1, rfl, hb1⟩, hu1⟩
  have hr1 := pairK.bag_row hb1
  have R1 := hide hr1; have U1 := hide hu1
  obtain ⟨x1, c1, rfl, -, -⟩ := Row.slice hr1
  clear hr1 hu1
  go_wp2_with fail
  refine (without_any (k := b) w1 R1.out (by omega)).mono ?_
  rintro e w2 ⟨⟨v2, rfl, hb2⟩, hu2⟩
  have hr2 := pairK.bag_row hb2
  have hz1 := U1.out.size
  have R2 := hide (pairK.row_mono (U := since w.heap.size w2) hr2 (fun g hg => ⟨by have := hg.1; omega, hg.2⟩)); have U2 := hide (U1.out.trans hu2)
  rw [ho0] at R2
  obtain ⟨x2, c2, rfl, -, -⟩ := Row.slice R2.out
  clear hr2 hu2 R1 U1
  have hz2 := U2.out.size
  have ho0l : o0.length ≤ 1000 := by rw [← ho0]; omega
  rcases HJ.out with ⟨rfl, hn⟩ | ⟨jx, vy, rfl, hy, hfy⟩
  · have hfn : fb = none := HFB.out.symm.trans hn
    subst hfn
    have UT := U2
    obtain rfl : o0 = o1 := HO1.out
    have RT := R2
    have hrl : o0.length ≤ 1001 := by omega
    clear hn HJ R2 U2 HO1
    rcases HI.out with ⟨rfl, hn⟩ | ⟨ix, vx, rfl, hx, hfx⟩
    · have hfn : fa = none := HFA.out.symm.trans hn
      subst hfn
      clear hn HI
      go_wp2_with fail
      go_ret
      exact ⟨⟨_, rfl, RT.out⟩, UT.out⟩
    · have hfn : fa = some vx := HFA.out.symm.trans hfx
      subst hfn
      have hlt := (List.getElem?_eq_some_iff.1 hx).1
      obtain ⟨bx, ofx, ex, hbx, -, -, hcx⟩ := HG.out ix _ hx
      cases ex
      have q1 : decide ((0 : Int) ≤ (ix : Int)) = true := by simp
      have cx := cell_upd hcx UT.out (by simp)
      clear HI hx hfx hcx
      go_wp2_with fail
      refine (with_any (k := b) (x := vx) _ RT.out (by omega)).mono ?_
      rintro e w9 ⟨⟨v9, rfl, hr9⟩, hu9⟩
      have hzt := UT.out.size
      have R9 := hide (pairK.row_mono (U := since w.heap.size w9) hr9 (fun g hg => ⟨by have := hg.1; omega, hg.2⟩)); have U9 := hide (UT.out.trans hu9)
      obtain ⟨x9, c9, rfl, -, -⟩ := Row.slice hr9
      clear hr9 hu9
      go_wp2_with fail
      go_ret
      exact ⟨⟨_, rfl, R9.out⟩, U9.out⟩
  · have hfn : fb = some vy := HFB.out.symm.trans hfy
    subst hfn
    have hlt := (List.getElem?_eq_some_iff.1 hy).1
    obtain ⟨by1, ofy, ey, hby, -, -, hcy⟩ := HG.out jx _ hy
    have q1 : decide ((0 : Int) ≤ (jx : Int)) = true := by simp
    have cy := cell_upd hcy U2.out (by simp)
    have HEY := hide ey
    clear HJ hy hfy hcy ey
    obtain rfl := HEY.out
    go_wp2_with fail
    refine (with_any (k := a) (x := vy) _ R2.out (by omega)).mono ?_
    rintro e w3 ⟨⟨v3, rfl, hr3⟩, hu3⟩
    rw [show mput strK o0 a vy = o1 from HO1.out] at hr3
    have RT := hide (pairK.row_mono (U := since w.heap.size w3) hr3 (fun g hg => ⟨by have := hg.1; omega, hg.2⟩)); have UT := hide (U2.out.trans hu3)
    obtain ⟨x3, c3, rfl, -, -⟩ := Row.slice hr3
    have hrl : o1.length ≤ 1001 := by rw [← HO1.out]; have := len_put_le (K := strK) (l := o0) (k := a) (v := vy); show (mput strK o0 a vy).length ≤ 1001; omega
    clear hr3 hu3 R2 U2 cy q1
    rcases HI.out with ⟨rfl, hn⟩ | ⟨ix, vx, rfl, hx, hfx⟩
    · have hfn : fa = none := HFA.out.symm.trans hn
      subst hfn
      clear hn HI
      go_wp2_with fail
      go_ret
      exact ⟨⟨_, rfl, RT.out⟩, UT.out⟩
    · have hfn : fa = some vx := HFA.out.symm.trans hfx
      subst hfn
      have hlt := (List.getElem?_eq_some_iff.1 hx).1
      obtain ⟨bx, ofx, ex, hbx, -, -, hcx⟩ := HG.out ix _ hx
      cases ex
      have q1 : decide ((0 : Int) ≤ (ix : Int)) = true := by simp
      have cx := cell_upd hcx UT.out (by simp)
      clear HI hx hfx hcx
      go_wp2_with fail
      refine (with_any (k := b) (x := vx) _ RT.out (by omega)).mono ?_
      rintro e w9 ⟨⟨v9, rfl, hr9⟩, hu9⟩
      have hzt := UT.out.size
      have R9 := hide (pairK.row_mono (U := since w.heap.size w9) hr9 (fun g hg => ⟨by have := hg.1; omega, hg.2⟩)); have U9 := hide (UT.out.trans hu9)
      obtain ⟨x9, c9, rfl, -, -⟩ := Row.slice hr9
      clear hr9 hu9
      go_wp2_with fail
      go_ret
      exact ⟨⟨_, rfl, R9.out⟩, U9.out⟩
end Go.Proofs.YthpnnffogbjhpaaGreatDoor.Kv
namespace Go.Proofs.YthpnnffogbjhpaaGreatDoor.Kv
set_option linter.unusedSimpArgs false
set_option linter.unusedVariables false
set_option linter.unnecessarySimpa false
open Go.RowKit Go.Lib Go.Proofs.YthpnnffogbjhpaaGreatDoor.Crc Go.Proofs.YthpnnffogbjhpaaGreatDoor.Cm

/-- How a function that names a slot and a reply's cell returns. -/
theorem ret_rp4 {fn : Func} {p u : Tmp} {B : Nat} {c : Int} {s : ByteArray} {x : Value} {W : World} {act : Act} {post : Ending → World → Prop} (hW : W.heap[B]? = some (.cells #[.int .u8 c, .string s] TRp (0, 0)))
    (hfn : fn.results = #[.tmp u, .cell p TRp]) (hp : act.tmps.getD p undef = .pointer (some ⟨B, 0, none⟩)) (hv : act.tmps.getD u undef = x) (hd : act.defers = []) (h : post (.returned (.tuple #[x, .agg #[.int .u8 c, .string s]])) W) : bodyPost Tryz.prog fn post Exit.ret act W := by
  have z0 : W.cell? ⟨B, 0, none⟩ = some (.int .u8 c) := blk_cell hW rfl
  have z1 : W.cell? ⟨B, 1, none⟩ = some (.string s) := blk_cell hW rfl
  refine bodyPost_ret (v := .tuple #[x, .agg #[.int .u8 c, .string s]]) ?_ hd h
  have e : (results fn act.tmps).run Tryz.prog W = ((asAddr (act.tmps.getD p undef)).run Tryz.prog W).andThen fun a w₁ => ((loadVar TRp a).run Tryz.prog w₁).andThen fun v w₂ => .ok (.tuple #[act.tmps.getD u undef, v]) w₂ := by
    simp only [results, hfn]
    simp [Sem.run_bind, Result.andThen]
  rw [e, hp, hv]
  go_simp
theorem num_zero : NumIs [48] 0 true := by
  have h : numM [48] = some 0 := by
    have := numM_itoa (n := 0) (by decide)
    rwa [show (0 : Int) = ((0 : Nat) : Int) from rfl, itoa_nonneg, decDigits_one (by omega)] at this
  exact ⟨by rw [h]; rfl, fun m hm => (by rw [h] at hm; exact Option.some.inj hm), by decide, by decide⟩
set_option maxRecDepth 100000 in
set_option maxHeartbeats 4000000 in
theorem radd_any {T T' : Nat → Prop} {v vc : Value} {m : KM} {c : Cm} (w : World) (h : pairK.row w T v m) (hc : CmAt w T' vc c) (hk : Cm.Good c) (hm : KvOk m) (hl : m.length ≤ 1000) (hT : ∀ k, T k → k < w.heap.size) :
    Calls Tryz.prog 73 #[v, vc] w fun e w' => (∃ v', e = .returned (.tuple #[v', rpv (addM m (keyA c) c.n).2]) ∧ pairK.row w' (fun g => T g ∨ since w.heap.size w' g) v' (addM m (keyA c) c.n).1) ∧ Upd [] w w' := by
  obtain ⟨fit, ks, rfl, hks⟩ := hc
  obtain ⟨xo, cp, rfl, h1, h2, hget⟩ := hks.get
  obtain ⟨k, hk0⟩ : ∃ k, c.keys[0]? = some k := ⟨_, List.getElem?_eq_getElem (Good.keys hk).2.1⟩
  have hkA : keyA c = k := by unfold keyA; rw [List.getD_eq_getElem?_getD, hk0]; rfl
  rw [hkA]
  obtain ⟨bk, ok', rfl, hbk, hkc⟩ := hget 0 k hk0
  rw [Nat.add_zero] at hkc
  have hpos : 0 < c.keys.length := (Good.keys hk).2.1
  have KC := hide hkc; have KS := hide hks; have FIT := hide fit; have GK := hide hk; have HKA := hide hkA
  simp only [maxLen] at h2
  obtain ⟨f1, f2, f3, f4, f5, -⟩ := id fit
  clear hget hks hk hk0 hkA hkc fit
  obtain ⟨po, pc, rfl, hp1, hp2, hpg⟩ := pair_get h
  have R0 := hide h; have HG := hide hpg
  simp only [maxLen] at hp2
  clear h hpg
  unfold cmv
  simp only [strV]
  have MOK := hide hm; have HLT := hide hT
  obtain ⟨y, hy⟩ : ∃ y, (mfind m k).getD [48] = y := ⟨_, rfl⟩
  obtain ⟨r, hr⟩ : ∃ r, addM m k c.n = r := ⟨_, rfl⟩
  have hr2 : (match numM y with | none => (m, ⟨2, []⟩) | some n => if fits (n + c.n) then (mput strK m k (itoa (n + c.n)), ⟨0, itoa (n + c.n)⟩) else (m, ⟨2, []⟩)) = r := by rw [← hr, ← hy]; rfl
  rw [hr]
  have HR := hide hr2; have HY := hide hy
  clear hr hr2 hy hm hT
  go_enter Tryz.func73, Tryz.ntmps73
  go_upto_region 1 with fail
  have hB := blk_alloc (blk_new w (.cells (cmc c (.slice (some ⟨bk, ok', none⟩) c.keys.length cp)).toArray TCmd)) (.cells #[.int .u8 0, .string ⟨#[]⟩] TRp)
  have hR := blk_new (w.alloc (.cells (cmc c (.slice (some ⟨bk, ok', none⟩) c.keys.length cp)).toArray TCmd)) (.cells #[.int .u8 0, .string ⟨#[]⟩] TRp)
  have hu := ((Upd.refl [] w).alloc (.cells (cmc c (.slice (some ⟨bk, ok', none⟩) c.keys.length cp)).toArray TCmd)).alloc (.cells #[.int .u8 0, .string ⟨#[]⟩] TRp)
  rw [World.size_alloc] at hR
  have hsz : ((w.alloc (.cells (cmc c (.slice (some ⟨bk, ok', none⟩) c.keys.length cp)).toArray TCmd)).alloc (.cells #[.int .u8 0, .string ⟨#[]⟩] TRp)).heap.size = w.heap.size + 2 := by simp
  change Code.wp _ _ _ _ ((w.alloc (.cells (cmc c (.slice (some ⟨bk, ok', none⟩) c.keys.length cp)).toArray TCmd)).alloc (.cells #[.int .u8 0, .string ⟨#[]⟩] TRp))
  generalize (w.alloc (.cells (cmc c (.slice (some ⟨bk, ok', none⟩) c.keys.length cp)).toArray TCmd)).alloc (.cells #[.int .u8 0, .string ⟨#[]⟩] TRp) = w1 at *
  have CB := hide hB; have CR := hide hR; have U1 := hide hu
  obtain ⟨B, hBs⟩ : ∃ B, w.heap.size = B := ⟨_, rfl⟩
  have KB := hide hBs
  rw [hBs] at hsz CB CR ⊢
  have K1 := hide (cell_upd KC.out hu (by simp)); have R1 := hide (pairK.row_upd_nil R0.out hu)
  clear hB hR hu hBs
  have c3 : w1.cell? ⟨B, 3, none⟩ = some (.slice (some ⟨bk, ok', none⟩) c.keys.length cp) := blk_cell CB.out rfl
  have ck := K1.out
  go_wp2_with fail
  refine (find_any (k := k) w1 R1.out).mono ?_
  rintro e wx ⟨⟨i, rfl, hi⟩, rfl⟩
  have HI := hide hi
  clear hi
  go_upto_if 17 with fail
  go_cut [6, 7] (fun sn so wx => (∃ n ok, sn = .int .i64 n ∧ so = .bool ok ∧ NumIs y n ok) ∧ w1 = wx)
  case first =>
    rcases HI.out with ⟨rfl, hn⟩ | ⟨ix, vx, rfl, hx, hfx⟩
    · have qn : decide ((0 : Int) ≤ -1) = false := by decide
      have HN := hide (show NumIs y 0 true by
        have := HY.out
        rw [hn] at this
        rw [← this]
        exact num_zero)
      clear hn HI
      go_wp2_with fail
      go_meet
      exact ⟨⟨0, true, rfl, rfl, HN.out⟩, rfl⟩
    · have q1 : decide ((0 : Int) ≤ (ix : Int)) = true := by simp
      have hlt := (List.getElem?_eq_some_iff.1 hx).1
      have hyx : y = vx := by have := HY.out; rw [hfx] at this; exact this.symm
      obtain ⟨bx, ofx, ex, hbx, -, -, hcx⟩ := HG.out ix _ hx
      have cx := cell_upd hcx U1.out (by simp)
      have hvl : vx.length ≤ 64 := MOK.out.find hfx
      have HYX := hide hyx; have HEX := hide ex
      clear HI hx hfx hcx ex hyx
      obtain rfl := HEX.out
      go_wp2_with fail
      refine (number_any (s := vx) w1 (by omega)).mono ?_
      rintro e wx ⟨⟨n, ok, rfl, hnm⟩, rfl⟩
      have HNM := hide hnm
      clear hnm
      go_wp2_with fail
      go_meet
      exact ⟨⟨n, ok, rfl, rfl, by rw [HYX.out]; exact HNM.out⟩, rfl⟩
  case rest =>
    obtain ⟨⟨n, ok, rfl, rfl, hnm⟩, rfl⟩ := hcut
    obtain ⟨hok, hval, hn1, hn2⟩ := hnm
    obtain ⟨z0, z1, g0, g1, z2, g2⟩ := res_facts CR.out
    cases ok with
    | false =>
      have hno : numM y = none := by cases hx : numM y with
        | none => rfl
        | some q => rw [hx] at hok; cases hok
      have hrr : r = (m, ⟨2, []⟩) := by have := HR.out; rw [hno] at this; exact this.symm
      subst hrr
      clear HR hno hok hval
      have c6 : w1.cell? ⟨B, 6, none⟩ = some (.int .i64 c.n) := blk_cell CB.out rfl
      go_wp2_with fail
      have hW := upd2 w1 (B + 1) (.int .u8 2) (.string (strOf []))
      have hBs := KB.out
      exact ret_rp4 (stored2 CR.out) rfl rfl rfl rfl ⟨⟨_, rfl, (pairK.row_upd R1.out hW (fun k hk hT => by simp at hk; have := HLT.out k hT; omega)).mono (fun k hk => .inl hk) (fun _ _ _ h => h)⟩, U1.out.trans_new hW (fun k hk => .inr (by simp at hk; omega))⟩
    | true =>
      have hso : numM y = some n := by cases hx : numM y with
        | none => rw [hx] at hok; cases hok
        | some q => rw [hval q hx]
      have hrs := HR.out
      rw [hso] at hrs
      simp only at hrs
      clear hso hok hval HR
      by_cases hz : 0 < c.n
      · have p1 : decide ((0 : Int) < c.n) = true := by simpa using hz
        by_cases hbig : 9223372036854775807 - c.n < n
        · have p2 : decide (RowKit.wrap64 (9223372036854775807 - c.n) < n) = true := by rw [show RowKit.wrap64 (9223372036854775807 - c.n) = 9223372036854775807 - c.n by unfold RowKit.wrap64; omega]; simpa using hbig
          rw [if_neg (by simp [fits]; omega)] at hrs
          subst hrs
          clear hz hbig
          have c6 : w1.cell? ⟨B, 6, none⟩ = some (.int .i64 c.n) := blk_cell CB.out rfl
          go_wp2_with fail
          have hW := upd2 w1 (B + 1) (.int .u8 2) (.string (strOf []))
          have hBs := KB.out
          exact ret_rp4 (stored2 CR.out) rfl rfl rfl rfl ⟨⟨_, rfl, (pairK.row_upd R1.out hW (fun k hk hT => by simp at hk; have := HLT.out k hT; omega)).mono (fun k hk => .inl hk) (fun _ _ _ h => h)⟩, U1.out.trans_new hW (fun k hk => .inr (by simp at hk; omega))⟩
        · have p2 : decide (RowKit.wrap64 (9223372036854775807 - c.n) < n) = false := by rw [show RowKit.wrap64 (9223372036854775807 - c.n) = 9223372036854775807 - c.n by unfold RowKit.wrap64; omega]; simpa using hbig
          have p3 : decide (c.n < 0) = false := by simp; omega
          have hfit : fits (n + c.n) = true := by simp [fits]; omega
          rw [if_pos hfit] at hrs
          have HF := hide hfit; have hsum : -9223372036854775808 ≤ n + c.n ∧ n + c.n ≤ 9223372036854775807 := by omega
          clear hz hbig hfit
          have c6 : w1.cell? ⟨B, 6, none⟩ = some (.int .i64 c.n) := blk_cell CB.out rfl
          have HRS := hide hrs
          clear hrs
          go_wp2_with fail
          refine (decimal_any HF.out w1).mono ?_
          obtain ⟨dz, hdz⟩ : ∃ x, itoa (n + c.n) = x := ⟨_, rfl⟩
          have HRS2 := hide (show (mput strK m k dz, (⟨0, dz⟩ : Rp)) = r by rw [← hdz]; exact HRS.out)
          rw [hdz]
          clear hdz HRS
          rintro e w2 ⟨rfl, hu2⟩
          have CB2 := hide (hu2.get CB.out (by simp)); have CR2 := hide (hu2.get CR.out (by simp)); have R2 := hide (pairK.row_upd_nil R1.out hu2); have U2 := hide (U1.out.trans hu2)
          have c3' : w2.cell? ⟨B, 3, none⟩ = some (.slice (some ⟨bk, ok', none⟩) c.keys.length cp) := blk_cell CB2.out rfl
          have ck' := cell_upd K1.out hu2 (by simp)
          have hz2 := hu2.size
          clear hu2 c3 ck c6 z0 z1 g0 g1 z2 g2
          go_wp2_with fail
          refine (with_any (k := k) (x := dz) w2 R2.out (by omega)).mono ?_
          rintro e w3 ⟨⟨v3, rfl, hr3⟩, hu3⟩
          have CR3 := hide (hu3.get CR2.out (by simp)); have U3 := hide (U2.out.trans hu3)
          obtain ⟨x3, d3, rfl, -, -⟩ := Row.slice hr3
          have R3 := hide (pairK.row_mono (U := fun g => w2.heap.size ≤ g ∧ g < w3.heap.size) hr3 (fun g hg => hg))
          have hz3 := hu3.size
          obtain ⟨z0, z1, g0, g1, z2, g2⟩ := res_facts CR3.out
          clear hr3 hu3 c3' ck'
          go_wp2_with fail
          have hW := upd2 w3 (B + 1) (.int .u8 0) (.string (strOf dz))
          have hBs := KB.out
          obtain rfl := HRS2.out
          exact ret_rp4 (stored2 CR3.out) rfl rfl rfl rfl ⟨⟨_, rfl, (pairK.row_upd R3.out hW (fun k hk hT => by simp at hk; omega)).mono (fun k hk => .inr ⟨by omega, by have := hk.2; have := hW.size; omega⟩) (fun _ _ _ h => h)⟩, U3.out.trans_new hW (fun k hk => .inr (by simp at hk; omega))⟩
      · have p1 : decide ((0 : Int) < c.n) = false := by simpa using hz
        by_cases hneg : c.n < 0
        · have p3 : decide (c.n < 0) = true := by simpa using hneg
          by_cases hbig : n < -9223372036854775808 - c.n
          · have p4 : decide (n < RowKit.wrap64 (-9223372036854775808 - c.n)) = true := by rw [show RowKit.wrap64 (-9223372036854775808 - c.n) = -9223372036854775808 - c.n by unfold RowKit.wrap64; omega]; simpa using hbig
            rw [if_neg (by simp [fits]; omega)] at hrs
            subst hrs
            clear hz hbig hneg
            have c6 : w1.cell? ⟨B, 6, none⟩ = some (.int .i64 c.n) := blk_cell CB.out rfl
            go_wp2_with fail
            have hW := upd2 w1 (B + 1) (.int .u8 2) (.string (strOf []))
            have hBs := KB.out
            exact ret_rp4 (stored2 CR.out) rfl rfl rfl rfl ⟨⟨_, rfl, (pairK.row_upd R1.out hW (fun k hk hT => by simp at hk; have := HLT.out k hT; omega)).mono (fun k hk => .inl hk) (fun _ _ _ h => h)⟩, U1.out.trans_new hW (fun k hk => .inr (by simp at hk; omega))⟩
          · have p4 : decide (n < RowKit.wrap64 (-9223372036854775808 - c.n)) = false := by rw [show RowKit.wrap64 (-9223372036854775808 - c.n) = -9223372036854775808 - c.n by unfold RowKit.wrap64; omega]; simpa using hbig
            have hfit : fits (n + c.n) = true := by simp [fits]; omega
            rw [if_pos hfit] at hrs
            have HF := hide hfit; have hsum : -9223372036854775808 ≤ n + c.n ∧ n + c.n ≤ 9223372036854775807 := by omega
            clear hz hbig hfit hneg
            have c6 : w1.cell? ⟨B, 6, none⟩ = some (.int .i64 c.n) := blk_cell CB.out rfl
            have HRS := hide hrs
            clear hrs
            go_wp2_with fail
            refine (decimal_any HF.out w1).mono ?_
            obtain ⟨dz, hdz⟩ : ∃ x, itoa (n + c.n) = x := ⟨_, rfl⟩
            have HRS2 := hide (show (mput strK m k dz, (⟨0, dz⟩ : Rp)) = r by rw [← hdz]; exact HRS.out)
            rw [hdz]
            clear hdz HRS
            rintro e w2 ⟨rfl, hu2⟩
            have CB2 := hide (hu2.get CB.out (by simp)); have CR2 := hide (hu2.get CR.out (by simp)); have R2 := hide (pairK.row_upd_nil R1.out hu2); have U2 := hide (U1.out.trans hu2)
            have c3' : w2.cell? ⟨B, 3, none⟩ = some (.slice (some ⟨bk, ok', none⟩) c.keys.length cp) := blk_cell CB2.out rfl
            have ck' := cell_upd K1.out hu2 (by simp)
            have hz2 := hu2.size
            clear hu2 c3 ck c6 z0 z1 g0 g1 z2 g2
            go_wp2_with fail
            refine (with_any (k := k) (x := dz) w2 R2.out (by omega)).mono ?_
            rintro e w3 ⟨⟨v3, rfl, hr3⟩, hu3⟩
            have CR3 := hide (hu3.get CR2.out (by simp)); have U3 := hide (U2.out.trans hu3)
            obtain ⟨x3, d3, rfl, -, -⟩ := Row.slice hr3
            have R3 := hide (pairK.row_mono (U := fun g => w2.heap.size ≤ g ∧ g < w3.heap.size) hr3 (fun g hg => hg))
            have hz3 := hu3.size
            obtain ⟨z0, z1, g0, g1, z2, g2⟩ := res_facts CR3.out
            clear hr3 hu3 c3' ck'
            go_wp2_with fail
            have hW := upd2 w3 (B + 1) (.int .u8 0) (.string (strOf dz))
            have hBs := KB.out
            obtain rfl := HRS2.out
            exact ret_rp4 (stored2 CR3.out) rfl rfl rfl rfl ⟨⟨_, rfl, (pairK.row_upd R3.out hW (fun k hk hT => by simp at hk; omega)).mono (fun k hk => .inr ⟨by omega, by have := hk.2; have := hW.size; omega⟩) (fun _ _ _ h => h)⟩, U3.out.trans_new hW (fun k hk => .inr (by simp at hk; omega))⟩
        · have p3 : decide (c.n < 0) = false := by simpa using hneg
          have hfit : fits (n + c.n) = true := by simp [fits]; omega
          rw [if_pos hfit] at hrs
          have HF := hide hfit; have hsum : -9223372036854775808 ≤ n + c.n ∧ n + c.n ≤ 9223372036854775807 := by omega
          clear hz hfit hneg
          have c6 : w1.cell? ⟨B, 6, none⟩ = some (.int .i64 c.n) := blk_cell CB.out rfl
          have HRS := hide hrs
          clear hrs
          go_wp2_with fail
          refine (decimal_any HF.out w1).mono ?_
          obtain ⟨dz, hdz⟩ : ∃ x, itoa (n + c.n) = x := ⟨_, rfl⟩
          have HRS2 := hide (show (mput strK m k dz, (⟨0, dz⟩ : Rp)) = r by rw [← hdz]; exact HRS.out)
          rw [hdz]
          clear hdz HRS
          rintro e w2 ⟨rfl, hu2⟩
          have CB2 := hide (hu2.get CB.out (by simp)); have CR2 := hide (hu2.get CR.out (by simp)); have R2 := hide (pairK.row_upd_nil R1.out hu2); have U2 := hide (U1.out.trans hu2)
          have c3' : w2.cell? ⟨B, 3, none⟩ = some (.slice (some ⟨bk, ok', none⟩) c.keys.length cp) := blk_cell CB2.out rfl
          have ck' := cell_upd K1.out hu2 (by simp)
          have hz2 := hu2.size
          clear hu2 c3 ck c6 z0 z1 g0 g1 z2 g2
          go_wp2_with fail
          refine (with_any (k := k) (x := dz) w2 R2.out (by omega)).mono ?_
          rintro e w3 ⟨⟨v3, rfl, hr3⟩, hu3⟩
          have CR3 := hide (hu3.get CR2.out (by simp)); have U3 := hide (U2.out.trans hu3)
          obtain ⟨x3, d3, rfl, -, -⟩ := Row.slice hr3
          have R3 := hide (pairK.row_mono (U := fun g => w2.heap.size ≤ g ∧ g < w3.heap.size) hr3 (fun g hg => hg))
          have hz3 := hu3.size
          obtain ⟨z0, z1, g0, g1, z2, g2⟩ := res_facts CR3.out
          clear hr3 hu3 c3' ck'
          go_wp2_with fail
          have hW := upd2 w3 (B + 1) (.int .u8 0) (.string (strOf dz))
          have hBs := KB.out
          obtain rfl := HRS2.out
          exact ret_rp4 (stored2 CR3.out) rfl rfl rfl rfl ⟨⟨_, rfl, (pairK.row_upd R3.out hW (fun k hk hT => by simp at hk; omega)).mono (fun k hk => .inr ⟨by omega, by have := hk.2; have := hW.size; omega⟩) (fun _ _ _ h => h)⟩, U3.out.trans_new hW (fun k hk => .inr (by simp at hk; omega))⟩
end Go.Proofs.YthpnnffogbjhpaaGreatDoor.Kv
