/- quorateref09: add. -/
import Derived.Test.YtcjflnnjieolfaaGreatDoorKvRs
namespace Go.Proofs.YtcjflnnjieolfaaGreatDoor.Kv
set_option linter.unusedSimpArgs false
set_option linter.unusedVariables false
set_option linter.unnecessarySimpa false
open Go.RowKit Go.Lib Go.Proofs.YtcjflnnjieolfaaGreatDoor.Crc Go.Proofs.YtcjflnnjieolfaaGreatDoor.Cm

/-- How a function that names a slot and a reply's cell returns. -/
theorem ret_rp4 {fn : Func} {p u : Tmp} {B : Nat} {c : Int} {s : ByteArray} {x : Value} {W : World} {act : Act} {post : Ending → World → Prop} (hW : W.heap[B]? = some (.cells #[.int .u8 c, .string s] TRp (0, 0)))
    (hfn : fn.results = #[.tmp u, .cell p TRp]) (hp : act.tmps.getD p undef = .pointer (some ⟨B, 0, none⟩)) (hv : act.tmps.getD u undef = x) (hd : act.defers = []) (h : post (.returned (.tuple #[x, .agg #[.int .u8 c, .string s]])) W) : bodyPost Tryz.prog fn post Exit.ret act W := by
  have z0 : W.cell? ⟨B, 0, none⟩ = some (.int .u8 c) := blk_cell hW rfl
  have z1 : W.cell? ⟨B, 1, none⟩ = some (.string s) := blk_cell hW rfl
  refine bodyPost_ret (v := .tuple #[x, .agg #[.int .u8 c, .string s]]) ?_ hd h
  have e : (results fn act.tmps).run Tryz.prog W = ((asAddr (act.tmps.getD p undef)).run Tryz.prog W).andThen fun a w₁ => ((loadVar TRp a).run Tryz.prog w₁).andThen fun v w₂ => .ok (.tuple #[act.tmps.getD u undef, v]) w₂ := by
    simp only [results, hfn]
    simp [Sem.run_bind, Result.andThen]
  rw [e, hp, hv]
  go_simp
theorem num_zero : NumIs [48] 0 true := by
  have h : numM [48] = some 0 := by
    have := numM_itoa (n := 0) (by decide)
    rwa [show (0 : Int) = ((0 : Nat) : Int) from rfl, itoa_nonneg, decDigits_one (by omega)] at this
  exact ⟨by rw [h]; rfl, fun m hm => (by rw [h] at hm; exact Option.some.inj hm), by decide, by decide⟩
set_option maxRecDepth 100000 in
set_option maxHeartbeats 4000000 in
theorem radd_any {T T' : Nat → Prop} {v vc : Value} {m : KM} {c : Cm} (w : World) (h : pairK.row w T v m) (hc : CmAt w T' vc c) (hk : Cm.Good c) (hm : KvOk m) (hl : m.length ≤ 1000) (hT : ∀ k, T k → k < w.heap.size) :
    Calls Tryz.prog 50 #[v, vc] w fun e w' => (∃ v', e = .returned (.tuple #[v', rpv (addM m (keyA c) c.n).2]) ∧ pairK.row w' (fun g => T g ∨ since w.heap.size w' g) v' (addM m (keyA c) c.n).1) ∧ Upd [] w w' := by
  obtain ⟨fit, ks, rfl, hks⟩ := hc
  obtain ⟨xo, cp, rfl, h1, h2, hget⟩ := hks.get
  obtain ⟨k, hk0⟩ : ∃ k, c.keys[0]? = some k := ⟨_, List.getElem?_eq_getElem (Good.keys hk).2.1⟩
  have hkA : keyA c = k := by unfold keyA; rw [List.getD_eq_getElem?_getD, hk0]; rfl
  rw [hkA]
  obtain ⟨bk, ok', rfl, hbk, hkc⟩ := hget 0 k hk0
  rw [Nat.add_zero] at hkc
  have hpos : 0 < c.keys.length := (Good.keys hk).2.1
  have KC := hide hkc; have KS := hide hks; have FIT := hide fit; have GK := hide hk; have HKA := hide hkA
  simp only [maxLen] at h2
  obtain ⟨f1, f2, f3, f4, f5, -⟩ := id fit
  clear hget hks hk hk0 hkA hkc fit
  obtain ⟨po, pc, rfl, hp1, hp2, hpg⟩ := pair_get h
  have R0 := hide h; have HG := hide hpg
  simp only [maxLen] at hp2
  clear h hpg
  unfold cmv
  simp only [strV]
  have MOK := hide hm; have HLT := hide hT
  obtain ⟨y, hy⟩ : ∃ y, (mfind m k).getD [48] = y := ⟨_, rfl⟩
  obtain ⟨r, hr⟩ : ∃ r, addM m k c.n = r := ⟨_, rfl⟩
  have hr2 : (match numM y with | none => (m, ⟨2, []⟩) | some n => if fits (n + c.n) then (mput strK m k (itoa (n + c.n)), ⟨0, itoa (n + c.n)⟩) else (m, ⟨2, []⟩)) = r := by rw [← hr, ← hy]; rfl
  rw [hr]
  have HR := hide hr2; have HY := hide hy
  clear hr hr2 hy hm hT
  go_enter Tryz.func50, Tryz.ntmps50
  go_upto_region 1 with fail
  have hB := blk_alloc (blk_new w (.cells (cmc c (.slice (some ⟨bk, ok', none⟩) c.keys.length cp)).toArray TCmd)) (.cells #[.int .u8 0, .string ⟨#[]⟩] TRp)
  have hR := blk_new (w.alloc (.cells (cmc c (.slice (some ⟨bk, ok', none⟩) c.keys.length cp)).toArray TCmd)) (.cells #[.int .u8 0, .string ⟨#[]⟩] TRp)
  have hu := ((Upd.refl [] w).alloc (.cells (cmc c (.slice (some ⟨bk, ok', none⟩) c.keys.length cp)).toArray TCmd)).alloc (.cells #[.int .u8 0, .string ⟨#[]⟩] TRp)
  rw [World.size_alloc] at hR
  have hsz : ((w.alloc (.cells (cmc c (.slice (some ⟨bk, ok', none⟩) c.keys.length cp)).toArray TCmd)).alloc (.cells #[.int .u8 0, .string ⟨#[]⟩] TRp)).heap.size = w.heap.size + 2 := by simp
  change Code.wp _ _ _ _ ((w.alloc (.cells (cmc c (.slice (some ⟨bk, ok', none⟩) c.keys.length cp)).toArray TCmd)).alloc (.cells #[.int .u8 0, .string ⟨#[]⟩] TRp))
  generalize (w.alloc (.cells (cmc c (.slice (some ⟨bk, ok', none⟩) c.keys.length cp)).toArray TCmd)).alloc (.cells #[.int .u8 0, .string ⟨#[]⟩] TRp) = w1 at *
  have CB := hide hB; have CR := hide hR; have U1 := hide hu
  obtain ⟨B, hBs⟩ : ∃ B, w.heap.size = B := ⟨_, rfl⟩
  have KB := hide hBs
  rw [hBs] at hsz CB CR ⊢
  have K1 := hide (cell_upd KC.out hu (by simp)); have R1 := hide (pairK.row_upd_nil R0.out hu)
  clear hB hR hu hBs
  have c3 : w1.cell? ⟨B, 3, none⟩ = some (.slice (some ⟨bk, ok', none⟩) c.keys.length cp) := blk_cell CB.out rfl
  have ck := K1.out
  go_wp2_with fail
  refine (find_any (k := k) w1 R1.out).mono ?_
  rintro e wx ⟨⟨i, rfl, hi⟩, rfl⟩
  have HI := hide hi
  clear hi
  go_upto_if 17 with fail
  go_cut [6, 7] (fun sn so wx => (∃ n ok, sn = .int .i64 n ∧ so = .bool ok ∧ NumIs y n ok) ∧ w1 = wx)
  case first =>
    rcases HI.out with ⟨rfl, hn⟩ | ⟨ix, vx, rfl, hx, hfx⟩
    · have qn : decide ((0 : Int) ≤ -1) = false := by decide
      have HN := hide (show NumIs y 0 true by
        have := HY.out
        rw [hn] at this
        rw [← this]
        exact num_zero)
      clear hn HI
      go_wp2_with fail
      go_meet
      exact ⟨⟨0, true, rfl, rfl, HN.out⟩, rfl⟩
    · have q1 : decide ((0 : Int) ≤ (ix : Int)) = true := by simp
      have hlt := (List.getElem?_eq_some_iff.1 hx).1
      have hyx : y = vx := by have := HY.out; rw [hfx] at this; exact this.symm
      obtain ⟨bx, ofx, ex, hbx, -, -, hcx⟩ := HG.out ix _ hx
      have cx := cell_upd hcx U1.out (by simp)
      have hvl : vx.length ≤ 64 := MOK.out.find hfx
      have HYX := hide hyx; have HEX := hide ex
      clear HI hx hfx hcx ex hyx
      obtain rfl := HEX.out
      go_wp2_with fail
      refine (number_any (s := vx) w1 (by omega)).mono ?_
      rintro e wx ⟨⟨n, ok, rfl, hnm⟩, rfl⟩
      have HNM := hide hnm
      clear hnm
      go_wp2_with fail
      go_meet
      exact ⟨⟨n, ok, rfl, rfl, by rw [HYX.out]; exact HNM.out⟩, rfl⟩
  case rest =>
    obtain ⟨⟨n, ok, rfl, rfl, hnm⟩, rfl⟩ := hcut
    obtain ⟨hok, hval, hn1, hn2⟩ := hnm
    obtain ⟨z0, z1, g0, g1, z2, g2⟩ := res_facts CR.out
    cases ok with
    | false =>
      have hno : numM y = none := by cases hx : numM y with
        | none => rfl
        | some q => rw [hx] at hok; cases hok
      have hrr : r = (m, ⟨2, []⟩) := by have := HR.out; rw [hno] at this; exact this.symm
      subst hrr
      clear HR hno hok hval
      have c6 : w1.cell? ⟨B, 6, none⟩ = some (.int .i64 c.n) := blk_cell CB.out rfl
      go_wp2_with fail
      have hW := upd2 w1 (B + 1) (.int .u8 2) (.string (strOf []))
      have hBs := KB.out
      exact ret_rp4 (stored2 CR.out) rfl rfl rfl rfl ⟨⟨_, rfl, (pairK.row_upd R1.out hW (fun k hk hT => by simp at hk; have := HLT.out k hT; omega)).mono (fun k hk => .inl hk) (fun _ _ _ h => h)⟩, U1.out.trans_new hW (fun k hk => .inr (by simp at hk; omega))⟩
    | true =>
      have hso : numM y = some n := by cases hx : numM y with
        | none => rw [hx] at hok; cases hok
        | some q => rw [hval q hx]
      have hrs := HR.out
      rw [hso] at hrs
      simp only at hrs
      clear hso hok hval HR
      by_cases hz : 0 < c.n
      · have p1 : decide ((0 : Int) < c.n) = true := by simpa using hz
        by_cases hbig : 9223372036854775807 - c.n < n
        · have p2 : decide (RowKit.wrap64 (9223372036854775807 - c.n) < n) = true := by rw [show RowKit.wrap64 (9223372036854775807 - c.n) = 9223372036854775807 - c.n by unfold RowKit.wrap64; omega]; simpa using hbig
          rw [if_neg (by simp [fits]; omega)] at hrs
          subst hrs
          clear hz hbig
          have c6 : w1.cell? ⟨B, 6, none⟩ = some (.int .i64 c.n) := blk_cell CB.out rfl
          go_wp2_with fail
          have hW := upd2 w1 (B + 1) (.int .u8 2) (.string (strOf []))
          have hBs := KB.out
          exact ret_rp4 (stored2 CR.out) rfl rfl rfl rfl ⟨⟨_, rfl, (pairK.row_upd R1.out hW (fun k hk hT => by simp at hk; have := HLT.out k hT; omega)).mono (fun k hk => .inl hk) (fun _ _ _ h => h)⟩, U1.out.trans_new hW (fun k hk => .inr (by simp at hk; omega))⟩
        · have p2 : decide (RowKit.wrap64 (9223372036854775807 - c.n) < n) = false := by rw [show RowKit.wrap64 (9223372036854775807 - c.n) = 9223372036854775807 - c.n by unfold RowKit.wrap64; omega]; simpa using hbig
          have p3 : decide (c.n < 0) = false := by simp; omega
          have hfit : fits (n + c.n) = true := by simp [fits]; omega
          rw [if_pos hfit] at hrs
          have HF := hide hfit; have hsum : -9223372036854775808 ≤ n + c.n ∧ n + c.n ≤ 9223372036854775807 := by omega
          clear hz hbig hfit
          have c6 : w1.cell? ⟨B, 6, none⟩ = some (.int .i64 c.n) := blk_cell CB.out rfl
          have HRS := hide hrs
          clear hrs
          go_wp2_with fail
          refine (decimal_any HF.out w1).mono ?_
          obtain ⟨dz, hdz⟩ : ∃ x, itoa (n + c.n) = x := ⟨_, rfl⟩
          have HRS2 := hide (show (mput strK m k dz, (⟨0, dz⟩ : Rp)) = r by rw [← hdz]; exact HRS.out)
          rw [hdz]
          clear hdz HRS
          rintro e w2 ⟨rfl, hu2⟩
          have CB2 := hide (hu2.get CB.out (by simp)); have CR2 := hide (hu2.get CR.out (by simp)); have R2 := hide (pairK.row_upd_nil R1.out hu2); have U2 := hide (U1.out.trans hu2)
          have c3' : w2.cell? ⟨B, 3, none⟩ = some (.slice (some ⟨bk, ok', none⟩) c.keys.length cp) := blk_cell CB2.out rfl
          have ck' := cell_upd K1.out hu2 (by simp)
          have hz2 := hu2.size
          clear hu2 c3 ck c6 z0 z1 g0 g1 z2 g2
          go_wp2_with fail
          refine (with_any (k := k) (x := dz) w2 R2.out (by omega)).mono ?_
          rintro e w3 ⟨⟨v3, rfl, hr3⟩, hu3⟩
          have CR3 := hide (hu3.get CR2.out (by simp)); have U3 := hide (U2.out.trans hu3)
          obtain ⟨x3, d3, rfl, -, -⟩ := Row.slice hr3
          have R3 := hide (pairK.row_mono (U := fun g => w2.heap.size ≤ g ∧ g < w3.heap.size) hr3 (fun g hg => hg))
          have hz3 := hu3.size
          obtain ⟨z0, z1, g0, g1, z2, g2⟩ := res_facts CR3.out
          clear hr3 hu3 c3' ck'
          go_wp2_with fail
          have hW := upd2 w3 (B + 1) (.int .u8 0) (.string (strOf dz))
          have hBs := KB.out
          obtain rfl := HRS2.out
          exact ret_rp4 (stored2 CR3.out) rfl rfl rfl rfl ⟨⟨_, rfl, (pairK.row_upd R3.out hW (fun k hk hT => by simp at hk; omega)).mono (fun k hk => .inr ⟨by omega, by have := hk.2; have := hW.size; omega⟩) (fun _ _ _ h => h)⟩, U3.out.trans_new hW (fun k hk => .inr (by simp at hk; omega))⟩
      · have p1 : decide ((0 : Int) < c.n) = false := by simpa using hz
        by_cases hneg : c.n < 0
        · have p3 : decide (c.n < 0) = true := by simpa using hneg
          by_cases hbig : n < -9223372036854775808 - c.n
          · have p4 : decide (n < RowKit.wrap64 (-9223372036854775808 - c.n)) = true := by rw [show RowKit.wrap64 (-9223372036854775808 - c.n) = -9223372036854775808 - c.n by unfold RowKit.wrap64; omega]; simpa using hbig
            rw [if_neg (by simp [fits]; omega)] at hrs
            subst hrs
            clear hz hbig hneg
            have c6 : w1.cell? ⟨B, 6, none⟩ = some (.int .i64 c.n) := blk_cell CB.out rfl
            go_wp2_with fail
            have hW := upd2 w1 (B + 1) (.int .u8 2) (.string (strOf []))
            have hBs := KB.out
            exact ret_rp4 (stored2 CR.out) rfl rfl rfl rfl ⟨⟨_, rfl, (pairK.row_upd R1.out hW (fun k hk hT => by simp at hk; have := HLT.out k hT; omega)).mono (fun k hk => .inl hk) (fun _ _ _ h => h)⟩, U1.out.trans_new hW (fun k hk => .inr (by simp at hk; omega))⟩
          · have p4 : decide (n < RowKit.wrap64 (-9223372036854775808 - c.n)) = false := by rw [show RowKit.wrap64 (-9223372036854775808 - c.n) = -9223372036854775808 - c.n by unfold RowKit.wrap64; omega]; simpa using hbig
            have hfit : fits (n + c.n) = true := by simp [fits]; omega
            rw [if_pos hfit] at hrs
            have HF := hide hfit; have hsum : -9223372036854775808 ≤ n + c.n ∧ n + c.n ≤ 9223372036854775807 := by omega
            clear hz hbig hfit hneg
            have c6 : w1.cell? ⟨B, 6, none⟩ = some (.int .i64 c.n) := blk_cell CB.out rfl
            have HRS := hide hrs
            clear hrs
            go_wp2_with fail
            refine (decimal_any HF.out w1).mono ?_
            obtain ⟨dz, hdz⟩ : ∃ x, itoa (n + c.n) = x := ⟨_, rfl⟩
            have HRS2 := hide (show (mput strK m k dz, (⟨0, dz⟩ : Rp)) = r by rw [← hdz]; exact HRS.out)
            rw [hdz]
            clear hdz HRS
            rintro e w2 ⟨rfl, hu2⟩
            have CB2 := hide (hu2.get CB.out (by simp)); have CR2 := hide (hu2.get CR.out (by simp)); have R2 := hide (pairK.row_upd_nil R1.out hu2); have U2 := hide (U1.out.trans hu2)
            have c3' : w2.cell? ⟨B, 3, none⟩ = some (.slice (some ⟨bk, ok', none⟩) c.keys.length cp) := blk_cell CB2.out rfl
            have ck' := cell_upd K1.out hu2 (by simp)
            have hz2 := hu2.size
            clear hu2 c3 ck c6 z0 z1 g0 g1 z2 g2
            go_wp2_with fail
            refine (with_any (k := k) (x := dz) w2 R2.out (by omega)).mono ?_
            rintro e w3 ⟨⟨v3, rfl, hr3⟩, hu3⟩
            have CR3 := hide (hu3.get CR2.out (by simp)); have U3 := hide (U2.out.trans hu3)
            obtain ⟨x3, d3, rfl, -, -⟩ := Row.slice hr3
            have R3 := hide (pairK.row_mono (U := fun g => w2.heap.size ≤ g ∧ g < w3.heap.size) hr3 (fun g hg => hg))
            have hz3 := hu3.size
            obtain ⟨z0, z1, g0, g1, z2, g2⟩ := res_facts CR3.out
            clear hr3 hu3 c3' ck'
            go_wp2_with fail
            have hW := upd2 w3 (B + 1) (.int .u8 0) (.string (strOf dz))
            have hBs := KB.out
            obtain rfl := HRS2.out
            exact ret_rp4 (stored2 CR3.out) rfl rfl rfl rfl ⟨⟨_, rfl, (pairK.row_upd R3.out hW (fun k hk hT => by simp at hk; omega)).mono (fun k hk => .inr ⟨by omega, by have := hk.2; have := hW.size; omega⟩) (fun _ _ _ h => h)⟩, U3.out.trans_new hW (fun k hk => .inr (by simp at hk; omega))⟩
        · have p3 : decide (c.n < 0) = false := by simpa using hneg
          have hfit : fits (n + c.n) = true := by simp [fits]; omega
          rw [if_pos hfit] at hrs
          have HF := hide hfit; have hsum : -9223372036854775808 ≤ n + c.n ∧ n + c.n ≤ 9223372036854775807 := by omega
          clear hz hfit hneg
          have c6 : w1.cell? ⟨B, 6, none⟩ = some (.int .i64 c.n) := blk_cell CB.out rfl
          have HRS := hide hrs
          clear hrs
          go_wp2_with fail
          refine (decimal_any HF.out w1).mono ?_
          obtain ⟨dz, hdz⟩ : ∃ x, itoa (n + c.n) = x := ⟨_, rfl⟩
          have HRS2 := hide (show (mput strK m k dz, (⟨0, dz⟩ : Rp)) = r by rw [← hdz]; exact HRS.out)
          rw [hdz]
          clear hdz HRS
          rintro e w2 ⟨rfl, hu2⟩
          have CB2 := hide (hu2.get CB.out (by simp)); have CR2 := hide (hu2.get CR.out (by simp)); have R2 := hide (pairK.row_upd_nil R1.out hu2); have U2 := hide (U1.out.trans hu2)
          have c3' : w2.cell? ⟨B, 3, none⟩ = some (.slice (some ⟨bk, ok', none⟩) c.keys.length cp) := blk_cell CB2.out rfl
          have ck' := cell_upd K1.out hu2 (by simp)
          have hz2 := hu2.size
          clear hu2 c3 ck c6 z0 z1 g0 g1 z2 g2
          go_wp2_with fail
          refine (with_any (k := k) (x := dz) w2 R2.out (by omega)).mono ?_
          rintro e w3 ⟨⟨v3, rfl, hr3⟩, hu3⟩
          have CR3 := hide (hu3.get CR2.out (by simp)); have U3 := hide (U2.out.trans hu3)
          obtain ⟨x3, d3, rfl, -, -⟩ := Row.slice hr3
          have R3 := hide (pairK.row_mono (U := fun g => w2.heap.size ≤ g ∧ g < w3.heap.size) hr3 (fun g hg => hg))
          have hz3 := hu3.size
          obtain ⟨z0, z1, g0, g1, z2, g2⟩ := res_facts CR3.out
          clear hr3 hu3 c3' ck'
          go_wp2_with fail
          have hW := upd2 w3 (B + 1) (.int .u8 0) (.string (strOf dz))
          have hBs := KB.out
          obtain rfl := HRS2.out
          exact ret_rp4 (stored2 CR3.out) rfl rfl rfl rfl ⟨⟨_, rfl, (pairK.row_upd R3.out hW (fun k hk hT => by simp at hk; omega)).mono (fun k hk => .inr ⟨by omega, by have := hk.2; have := hW.size; omega⟩) (fun _ _ _ h => h)⟩, U3.out.trans_new hW (fun k hk => .inr (by simp at hk; omega))⟩
end Go.Proofs.YtcjflnnjieolfaaGreatDoor.Kv
