/- The law WavesAlike, walked. -/
import Derived.Test.YteeepelmkfiocaaGreatDoorWvB
import Derived.Test.YteeepelmkfiocaaGreatDoorWvTw
namespace Go.Proofs.YteeepelmkfiocaaGreatDoor.Kv
set_option linter.unusedSimpArgs false
set_option linter.unusedVariables false
set_option linter.unnecessarySimpa false
open Go.RowKit Go.Lib Go.Proofs.YteeepelmkfiocaaGreatDoor.Crc Go.Proofs.YteeepelmkfiocaaGreatDoor.Cm

noncomputable def alOps22 : Array Oper := findOps 22 ((Tryz.f4.body).getD .skip)
noncomputable def alOps16 : Array Oper := findOps 16 ((Tryz.f4.body).getD .skip)
set_option maxRecDepth 100000 in
set_option maxHeartbeats 8000000 in
theorem alike_any {T0 T : Nat → Prop} {v0 v : Value} {l0 l : List Cm} {po : Option Addr} {pn pc : Nat} {ps : List Int} (w : World) (he : EnvAt w) (h0 : cmK.row w T0 v0 l0) (h : cmK.row w T v l)
    (hp : SrcAt w po pn pc (ps.map pV) 1) (hpm : pn ≤ pc) (hpx : pc ≤ maxLen) :
    Calls Tryz.prog 4 #[v0, v, .slice po pn pc] w fun e w' => e = .returned (.bool true) ∧ Upd [] w w' := by
  have CR0 := hide h0; have CR := hide h; have ENV := hide he; have SP := hide hp; have HF0 := hide (fits_get h0); have HF := hide (fits_get h)
  obtain ⟨yo, yp, rfl, y1, y2, -⟩ := cm_get h0
  obtain ⟨xo, cp, rfl, h1, h2, -⟩ := cm_get h
  simp only [maxLen] at h2 hpx y2
  clear h0 h he hp
  go_enter Tryz.func4, Tryz.ntmps4
  go_wp2_with fail
  refine (great_any w CR0.out).mono ?_
  rintro e w1 ⟨hu1, r0, rfl, hr0⟩
  have U1 := hide hu1; have R0 := hide hr0; have E1 := hide (ENV.out.upd_nil hu1)
  clear hu1 hr0
  cases r0 with
  | true =>
    go_wp2_with fail
    refine (wakes13_any _ E1.out).mono ?_
    rintro e wz ⟨rfl, huz⟩
    have U2 := hide (U1.out.trans huz)
    clear huz
    go_wp2_with fail
    go_ret
    exact ⟨rfl, U2.out⟩
  | false =>
    have hsm0 := R0.out rfl
    have SM0 := hide hsm0
    have hl0 := hsm0.1
    clear R0 hsm0
    go_wp2_with fail
    refine (great_any w1 (Kind.row_upd_nil CR.out U1.out)).mono ?_
    rintro e wb ⟨hu1, r0, rfl, hr0⟩
    have U1' := hide (U1.out.trans hu1); have R0 := hide hr0
    clear hu1 hr0 U1 E1
    have U1 := U1'
    clear U1'
    have E1 := hide (ENV.out.upd_nil U1.out)
    cases r0 with
    | true =>
      go_wp2_with fail
      refine (wakes13_any _ E1.out).mono ?_
      rintro e wz ⟨rfl, huz⟩
      have U2 := hide (U1.out.trans huz)
      clear huz
      go_wp2_with fail
      go_ret
      exact ⟨rfl, U2.out⟩
    | false =>
      have hsm := R0.out rfl
      have SM := hide hsm
      have hl100 := hsm.1
      clear R0 hsm
      by_cases h200 : 200 < pn
      · have d0 : decide ((200 : Int) < (pn : Int)) = true := by simp; omega
        have d0' : decide ((pn : Int) > 200) = true := by simp; omega
        clear h200
        go_wp2_with fail
        refine (wakes13_any _ E1.out).mono ?_
        rintro e wz ⟨rfl, huz⟩
        have U2 := hide (U1.out.trans huz)
        clear huz
        go_wp2_with fail
        go_ret
        exact ⟨rfl, U2.out⟩
      have d0 : decide ((200 : Int) < (pn : Int)) = false := by simp; omega
      have d0' : decide ((pn : Int) > 200) = false := by simp; omega
      go_wp2_with fail
      refine (fold_any (T := T0) wb E1.out (Kind.row_upd_nil CR0.out U1.out) hl0).mono ?_
      rintro e w2 ⟨⟨lo1, hi1, pa, rfl, ha2, hlo1, hhi1⟩, hok2, hu2⟩
      have A2 := hide ha2; have U2 := hide (U1.out.trans hu2); have OK2 := hide hok2
      have hs1 := U1.out.size; have hs2 := hu2.size
      clear ha2 hu2 hok2 d0 d0'
      go_wp2_with fail
      refine (fold_any (T := T0) w2 (ENV.out.upd_nil U2.out) (Kind.row_upd_nil CR0.out U2.out) hl0).mono ?_
      rintro e w3 ⟨⟨lo2, hi2, pb, rfl, hb3, hlo2, hhi2⟩, -, hu3⟩
      have A3 := hide (A2.out.upd_nil hu3); have B3 := hide hb3; have U3 := hide (U2.out.trans hu3)
      have hs3 := hu3.size
      obtain ⟨x0, hx0⟩ : ∃ x0, foldA l0 l0.length = x0 := ⟨_, rfl⟩
      rw [hx0] at A3 B3 OK2
      clear hb3 hu3 A2 U2 hx0
      go_wp2_with fail
      refine (run_any (T := T) (k := l0.length) w3 (Around.old ENV.out CR.out U3.out (by omega)) SM.out (PickAt.old SP.out U3.out (by omega)) (by omega) (by omega) A3.out OK2.out (by omega)).mono ?_
      rintro e w4 ⟨⟨g, rfl, hg4, hblk⟩, ha4, ht4⟩
      obtain ⟨t1, t2, t3⟩ := alike_says (l := l) (ps := ps) OK2.out.up
      rw [t1] at ha4
      obtain ⟨dx, hdx⟩ : ∃ dx, (runD l x0 (orderM l ps) 0 (List.replicate l.length dn0)).2 = dx := ⟨_, rfl⟩
      rw [hdx] at hblk t2 t3
      have hs4 := ht4.size
      have A4 := hide ha4; have U4 := hide (ht4.upd_new U3.out (by omega)); have B4 := hide (B3.out.keep ht4 (.inr (by omega))); have BK := hide hblk; have AL := hide t3
      clear ha4 ht4 hblk t1 t3 hdx A3 B3 U3
      go_wp2_with fail
      refine (one_any (T := T) (k := l0.length) w w4 ENV.out CR.out hl100 U4.out (by omega) (by omega) B4.out OK2.out (by omega)).mono ?_
      rintro e w5 ⟨⟨ao, ac, rfl, hown⟩, hb5, hok5, ht5⟩
      obtain ⟨x1, hx1⟩ : ∃ x1, (runM l x0 (List.range l.length)).1 = x1 := ⟨_, rfl⟩
      rw [hx1] at hb5 hok5 A4
      have hs5 := ht5.size
      have A5 := hide (A4.out.keep ht5 (.inl (by omega))); have B5 := hide hb5; have OK5 := hide hok5; have U5 := hide (ht5.upd_new U4.out (by omega)); have BK5 := hide (ht5.get BK.out (.inr (by omega))); have OW5 := hide hown
      clear hb5 hok5 ht5 hown hx1 A4 B4 U4 BK
      have q0 : ((l.length : Int) != (l.length : Int)) = false := by simp
      go_wp2_with fail
      refine (asame_any w5 A5.out B5.out OK5.out (by omega)).mono ?_
      rintro e w6 ⟨rfl, hu6⟩
      have hs6 := hu6.size
      have U6 := hide (U5.out.trans hu6); have BK6 := hide (hu6.get BK5.out (by simp)); have OW6 := hide (owns_upd OW5.out hu6 (by simp))
      clear hu6 A5 B5 U5 BK5 OW5 q0
      obtain ⟨n, hn⟩ : ∃ n, l.length = n := ⟨_, rfl⟩
      have hol : (orderM l ps).length = n := by rw [orderM_len, hn]
      have hnd : ((orderM l ps).map (·.1)).Nodup := (orderM_perm l ps).nodup_iff.2 List.nodup_range
      have hlt' : ∀ p ∈ orderM l ps, p.1 < n := fun p hp => by rw [← hn]; exact orderM_lt hp
      have hrs : ∀ (i : Nat) (p q : Nat × Nat), (orderM l ps)[i]? = some p → (orderM l ps)[i + 1]? = some q → p.2 ≤ q.2 := fun i p q h1 h2 => order_rises h1 h2
      obtain ⟨od, hod⟩ : ∃ od, orderM l ps = od := ⟨_, rfl⟩
      obtain ⟨oy, hoy⟩ : ∃ oy, oneD l x0 l.length = oy := ⟨_, rfl⟩
      have al := AL.out
      rw [hoy] at OW6 al
      rw [hod] at hol hnd hlt' hrs al
      rw [hn] at OW6 al hl100 t2 ⊢
      have AL2 := hide al; have ND := hide hnd; have OLT := hide hlt'; have RS := hide hrs
      clear al hnd hlt' hrs hod hoy AL hn OK2 OK5
      obtain ⟨i1, hi1', iz0, iz1, iz2⟩ := partsI infoI
      have hmk := fun wx => run_make_rowN (P := Tryz.prog) 23 3 i1 (.int .i64 0) Tryz.underlying23 hi1' iz0 .i64 .i64 n n (Nat.le_refl _) (by rw [iz2]; omega) (by omega) wx
      rw [iz1, Nat.mul_one, show (Value.int .i64 0).cells = #[.int .i64 0] from rfl] at hmk
      simp only [made_row] at hmk
      go_wp2_with fail
      obtain ⟨H, hH⟩ : ∃ H, w6.heap.size = H := ⟨_, rfl⟩
      have hB := blk_new w6 (.cells (Array.replicate n (.int .i64 0)) 3)
      have hu7 := (Upd.refl [] w6).alloc (.cells (Array.replicate n (.int .i64 0)) 3)
      generalize w6.alloc (.cells (Array.replicate n (.int .i64 0)) 3) = w7 at *
      rw [← List.toArray_replicate] at hB
      rw [hH] at hB ⊢
      have hgH : g < H := by have := blk_lt BK6.out; omega
      have howl : ∀ q, (Value.slice ao n ac).ownBlock = some q → q < H := fun q hq => by have := (owns_lt OW6.out q hq).2; omega
      have HB7 := hide hB; have U7 := hide (U6.out.trans hu7); have BK7 := hide (hu7.get BK6.out (by simp)); have OW7 := hide (owns_upd OW6.out hu7 (by simp)); have OWL := hide howl
      have hz7 := U6.out.size
      rw [hH] at hz7
      clear hB hu7 U6 BK6 OW6 howl hmk hH
      go_loopw [12] (fun si wr => ∃ i : Nat, i ≤ n ∧ si = .int .i64 i ∧ wr.heap[H]? = some (.cells (List.replicate i (Value.int .i64 (-1)) ++ List.replicate (n - i) (Value.int .i64 0)).toArray 3 (0, 0)) ∧ Upd [H] w7 wr) (fun si _ => n - (RowKit.intOf si).toNat)
      case atStart => exact ⟨0, by omega, rfl, by simpa using HB7.out, Upd.refl _ _⟩
      case round =>
        obtain ⟨i, hi, rfl, hbl, hur⟩ := hrel
        have BL := hide hbl; have UR := hide hur
        clear hbl hur
        by_cases hlt : i < n
        · have d7 : decide ((i : Int) < n) = true := by simp; omega
          have d7' : decide (i < n) = true := by simpa using hlt
          obtain ⟨m, hm⟩ : ∃ m, n - i = m + 1 := ⟨n - i - 1, by omega⟩
          have c0 : ∃ u, wr.cell? ⟨H, i, none⟩ = some u := blk_some BL.out (by simp; omega)
          obtain ⟨u, c0⟩ := c0
          have f0 : wr.frozen? ⟨H, i, none⟩ = false := blk_free BL.out
          have hst := blk_set (i := i) BL.out (.int .i64 (-1))
          have hset : Upd [H] wr (wr.setCell ⟨H, i, none⟩ (.int .i64 (-1))) := (Upd.refl [H] wr).setCell (p := ⟨H, i, none⟩) (.inl (by simp)) _
          have hlist : (List.replicate i (Value.int .i64 (-1)) ++ List.replicate (n - i) (Value.int .i64 0)).set i (.int .i64 (-1)) = List.replicate (i + 1) (Value.int .i64 (-1)) ++ List.replicate (n - (i + 1)) (Value.int .i64 0) := by
            rw [hm, show n - (i + 1) = m by omega, List.set_append_right _ _ (by simp), List.length_replicate, Nat.sub_self, List.replicate_succ, List.set_cons_zero, List.replicate_succ', List.append_assoc]
            rfl
          rw [List.setIfInBounds_toArray, hlist] at hst
          have ST := hide hst; have SU := hide (UR.out.trans hset)
          clear hst hset hlist hm
          go_wp2_with fail
          go_roundw
          case rel => exact ⟨i + 1, by omega, by go_num, ST.out, SU.out⟩
          case measure => simp [RowKit.intOf]; omega
        · have d7 : decide ((i : Int) < n) = false := by simp; omega
          have d7' : decide (i < n) = false := by simpa using hlt
          have hie : i = n := by omega
          subst hie
          have hb8 := BL.out
          rw [Nat.sub_self, List.replicate_zero, List.append_nil] at hb8
          rw [show List.replicate i (Value.int .i64 (-1)) = atM od 0 by rw [at_zero, hol]] at hb8
          obtain ⟨w8, hw8⟩ : ∃ w8, w8 = wr := ⟨_, rfl⟩
          subst hw8
          have HB8 := hide hb8; have U8 := hide (U7.out.trans_new UR.out (fun q hq => .inr (by simp at hq; omega))); have BK8 := hide (UR.out.get BK7.out (by simp; omega)); have OW8 := hide (owns_upd OW7.out UR.out (fun q hq hm => by have := OWL.out q hq; simp at hm; omega))
          clear hb8 BL UR U7 BK7 OW7 HB7 d7 d7' hlt hi
          obtain ⟨n, hn⟩ : ∃ n, n = i := ⟨_, rfl⟩
          subst hn
          go_wp2_with fail
          go_loopw [13] (fun si wr => ∃ i : Nat, i ≤ n ∧ si = .int .i64 i ∧ wr.heap[H]? = some (.cells (atM od i).toArray 3 (0, 0)) ∧ Upd [H] w8 wr) (fun si _ => n - (RowKit.intOf si).toNat)
          case atStart => exact ⟨0, by omega, rfl, HB8.out, Upd.refl _ _⟩
          case round =>
            obtain ⟨i, hi, rfl, hbl, hur⟩ := hrel
            have BL := hide hbl; have UR := hide hur
            clear hbl hur
            by_cases hlt : i < n
            · have d7 : decide ((i : Int) < n) = true := by simp; omega
              have d7' : decide (i < n) = true := by simpa using hlt
              obtain ⟨d, hd, ho, hto⟩ := AL2.out i hlt
              obtain ⟨⟨rc, rt⟩, f, wv, t⟩ := d
              have htn : t < n := by have h9 : t < od.length := (List.getElem?_eq_some_iff.1 hto).1; omega
              have hbk := UR.out.get BK8.out (by simp; omega)
              have hoy := owns_upd OW8.out UR.out (fun q hq hm => by have := OWL.out q hq; simp at hm; omega)
              obtain ⟨ao', c', e, -, -, hy⟩ := owns_slice hoy
              cases e
              have x0 : wr.cell? ⟨g, i * 5, none⟩ = some (.int .u8 (rc : Int)) := blk_cell hbk (by simpa using dncs_get dx i 0 _ _ hd (by rfl))
              have x1 : wr.cell? ⟨g, i * 5 + 1, none⟩ = some (.string (strOf rt)) := blk_cell hbk (by simpa using dncs_get dx i 1 _ _ hd (by rfl))
              have x2 : wr.cell? ⟨g, i * 5 + 2, none⟩ = some (.bool f) := blk_cell hbk (by simpa using dncs_get dx i 2 _ _ hd (by rfl))
              have x3 : wr.cell? ⟨g, i * 5 + 3, none⟩ = some (.int .i64 (wv : Int)) := blk_cell hbk (by simpa using dncs_get dx i 3 _ _ hd (by rfl))
              have x4 : wr.cell? ⟨g, i * 5 + 4, none⟩ = some (.int .i64 (t : Int)) := blk_cell hbk (by simpa using dncs_get dx i 4 _ _ hd (by rfl))
              obtain ⟨gy, rfl, -, -, y0⟩ := hy (i * 5) (.int .u8 (rc : Int)) (by simpa using dncs_get oy i 0 _ _ ho (by rfl))
              obtain ⟨gz, e, -, -, y1⟩ := hy (i * 5 + 1) (.string (strOf rt)) (dncs_get oy i 1 _ _ ho (by rfl))
              cases e
              obtain ⟨gz, e, -, -, y2'⟩ := hy (i * 5 + 2) (.bool f) (dncs_get oy i 2 _ _ ho (by rfl))
              cases e
              obtain ⟨gz, e, -, -, y3⟩ := hy (i * 5 + 3) (.int .i64 ((0 : Nat) : Int)) (dncs_get oy i 3 _ _ ho (by rfl))
              cases e
              obtain ⟨gz, e, -, -, y4⟩ := hy (i * 5 + 4) (.int .i64 (i : Int)) (dncs_get oy i 4 _ _ ho (by rfl))
              cases e
              have ca : wr.cell? ⟨H, t, none⟩ = some (.int .i64 (-1)) := blk_cell BL.out (by simpa using at_get hto)
              have fa : wr.frozen? ⟨H, t, none⟩ = false := blk_free BL.out
              have q2 : (f != f) = false := by simp
              have q3 : ((i : Int) != (i : Int)) = false := by simp
              have q5 : decide ((t : Int) < 0) = false := by simp
              have q6 : decide ((t : Int) ≥ (n : Int)) = false := by simp; omega
              have q6' : decide ((n : Int) ≤ (t : Int)) = false := by simp; omega
              have q7 : decide (n ≤ t) = false := by simp; omega
              have hst := blk_set (i := t) BL.out (nV wv)
              rw [List.setIfInBounds_toArray, ← at_step ND.out hto] at hst
              have hset : Upd [H] wr (wr.setCell ⟨H, t, none⟩ (nV wv)) := (Upd.refl [H] wr).setCell (p := ⟨H, t, none⟩) (.inl (by simp)) _
              have ST := hide hst; have SU := hide (UR.out.trans hset)
              have HTO := hide hto
              clear hd ho hto hbk hoy hy hst hset
              have X0 := hide (fun wx (hS : Upd [] wr wx) => cell_upd x0 hS (by simp)); have X1 := hide (fun wx (hS : Upd [] wr wx) => cell_upd x1 hS (by simp)); have X2 := hide (fun wx (hS : Upd [] wr wx) => cell_upd x2 hS (by simp)); have X4 := hide (fun wx (hS : Upd [] wr wx) => cell_upd x4 hS (by simp))
              have Y0 := hide (fun wx (hS : Upd [] wr wx) => cell_upd y0 hS (by simp)); have Y1 := hide (fun wx (hS : Upd [] wr wx) => cell_upd y1 hS (by simp)); have Y2 := hide (fun wx (hS : Upd [] wr wx) => cell_upd y2' hS (by simp)); have Y3 := hide (fun wx (hS : Upd [] wr wx) => cell_upd y3 hS (by simp)); have Y4 := hide (fun wx (hS : Upd [] wr wx) => cell_upd y4 hS (by simp)); have XA := hide (fun wx (hS : Upd [] wr wx) => cell_upd ca hS (by simp))
              have CX := hide (And.intro x3 x4)
              have CA := hide (And.intro ca fa)
              clear x0 x1 x2 x3 x4 y0 y1 y2' y3 y4 ca fa
              go_upto_region 16 with fail
              refine wp_region_seq alOps16 (by kernel_rfl) [] (Upd [] wr) (by kernel_rfl) (by kernel_rfl) (fun _ _ d _ _ h => by cases d <;> exact h) ((Upd.refl _ _).drewN 1) ?_
              refine wpSeq_take (by kernel_rfl) (by kernel_rfl) ?_
              apply Exists.intro
              refine ⟨fun wx hS => ?_, fun a' ha => ?_⟩
              · go_simp; rfl
              simp only [Act.put, List.setIfInBounds_toArray, List.set_cons_succ, List.set_cons_zero] at ha
              subst ha
              refine wpSeq_take (by kernel_rfl) (by kernel_rfl) ?_
              apply Exists.intro
              refine ⟨fun wx hS => ?_, fun a' ha => ?_⟩
              · go_simp; rfl
              simp only [Act.put, List.setIfInBounds_toArray, List.set_cons_succ, List.set_cons_zero] at ha
              subst ha
              refine wpSeq_take (by kernel_rfl) (by kernel_rfl) ?_
              apply Exists.intro
              refine ⟨fun wx hS => ?_, fun a' ha => ?_⟩
              · go_simp; rfl
              simp only [Act.put, List.setIfInBounds_toArray, List.set_cons_succ, List.set_cons_zero] at ha
              subst ha
              refine wpSeq_take (by kernel_rfl) (by kernel_rfl) ?_
              apply Exists.intro
              refine ⟨fun wx hS => ?_, fun a' ha => ?_⟩
              · go_simp; rfl
              simp only [Act.put, List.setIfInBounds_toArray, List.set_cons_succ, List.set_cons_zero] at ha
              subst ha
              refine wpSeq_take (by kernel_rfl) (by kernel_rfl) ?_
              apply Exists.intro
              refine ⟨fun wx hS => ?_, fun a' ha => ?_⟩
              · have c0 := X0.out wx hS; have c1 := X1.out wx hS; go_simp; rfl
              simp only [Act.put, List.setIfInBounds_toArray, List.set_cons_succ, List.set_cons_zero] at ha
              subst ha
              refine wpSeq_take (by kernel_rfl) (by kernel_rfl) ?_
              apply Exists.intro
              refine ⟨fun wx hS => ?_, fun a' ha => ?_⟩
              · go_simp; rfl
              simp only [Act.put, List.setIfInBounds_toArray, List.set_cons_succ, List.set_cons_zero] at ha
              subst ha
              refine wpSeq_take (by kernel_rfl) (by kernel_rfl) ?_
              apply Exists.intro
              refine ⟨fun wx hS => ?_, fun a' ha => ?_⟩
              · go_simp; rfl
              simp only [Act.put, List.setIfInBounds_toArray, List.set_cons_succ, List.set_cons_zero] at ha
              subst ha
              refine wpSeq_take (by kernel_rfl) (by kernel_rfl) ?_
              apply Exists.intro
              refine ⟨fun wx hS => ?_, fun a' ha => ?_⟩
              · go_simp; rfl
              simp only [Act.put, List.setIfInBounds_toArray, List.set_cons_succ, List.set_cons_zero] at ha
              subst ha
              refine wpSeq_take (by kernel_rfl) (by kernel_rfl) ?_
              apply Exists.intro
              refine ⟨fun wx hS => ?_, fun a' ha => ?_⟩
              · go_simp; rfl
              simp only [Act.put, List.setIfInBounds_toArray, List.set_cons_succ, List.set_cons_zero] at ha
              subst ha
              refine wpSeq_take (by kernel_rfl) (by kernel_rfl) ?_
              apply Exists.intro
              refine ⟨fun wx hS => ?_, fun a' ha => ?_⟩
              · have c0 := Y0.out wx hS; have c1 := Y1.out wx hS; go_simp; rfl
              simp only [Act.put, List.setIfInBounds_toArray, List.set_cons_succ, List.set_cons_zero] at ha
              subst ha
              refine wpSeq_take (by kernel_rfl) (by kernel_rfl) ?_
              apply Exists.intro
              refine ⟨fun wx hS => ?_, fun a' ha => ?_⟩
              · have q1 := neq_rp ⟨rc, rt⟩ ⟨rc, rt⟩ wx; rw [decide_eq_true rfl] at q1; go_simp; rfl
              simp only [Act.put, List.setIfInBounds_toArray, List.set_cons_succ, List.set_cons_zero] at ha
              subst ha
              refine wpSeq_take (by kernel_rfl) (by kernel_rfl) ?_
              apply Exists.intro
              refine ⟨fun wx hS => ?_, fun a' ha => ?_⟩
              · go_simp; rfl
              simp only [Act.put, List.setIfInBounds_toArray, List.set_cons_succ, List.set_cons_zero] at ha
              subst ha
              refine wpSeq_take (by kernel_rfl) (by kernel_rfl) ?_
              apply Exists.intro
              refine ⟨fun wx hS => ?_, fun a' ha => ?_⟩
              · go_simp; rfl
              simp only [Act.put, List.setIfInBounds_toArray, List.set_cons_succ, List.set_cons_zero] at ha
              subst ha
              refine wpSeq_take (by kernel_rfl) (by kernel_rfl) ?_
              apply Exists.intro
              refine ⟨fun wx hS => ?_, fun a' ha => ?_⟩
              · go_simp; rfl
              simp only [Act.put, List.setIfInBounds_toArray, List.set_cons_succ, List.set_cons_zero] at ha
              subst ha
              refine wpSeq_take (by kernel_rfl) (by kernel_rfl) ?_
              apply Exists.intro
              refine ⟨fun wx hS => ?_, fun a' ha => ?_⟩
              · go_simp; rfl
              simp only [Act.put, List.setIfInBounds_toArray, List.set_cons_succ, List.set_cons_zero] at ha
              subst ha
              refine wpSeq_take (by kernel_rfl) (by kernel_rfl) ?_
              apply Exists.intro
              refine ⟨fun wx hS => ?_, fun a' ha => ?_⟩
              · go_simp; rfl
              simp only [Act.put, List.setIfInBounds_toArray, List.set_cons_succ, List.set_cons_zero] at ha
              subst ha
              refine wpSeq_take (by kernel_rfl) (by kernel_rfl) ?_
              apply Exists.intro
              refine ⟨fun wx hS => ?_, fun a' ha => ?_⟩
              · have c0 := X2.out wx hS; go_simp; rfl
              simp only [Act.put, List.setIfInBounds_toArray, List.set_cons_succ, List.set_cons_zero] at ha
              subst ha
              refine wpSeq_take (by kernel_rfl) (by kernel_rfl) ?_
              apply Exists.intro
              refine ⟨fun wx hS => ?_, fun a' ha => ?_⟩
              · go_simp; rfl
              simp only [Act.put, List.setIfInBounds_toArray, List.set_cons_succ, List.set_cons_zero] at ha
              subst ha
              refine wpSeq_take (by kernel_rfl) (by kernel_rfl) ?_
              apply Exists.intro
              refine ⟨fun wx hS => ?_, fun a' ha => ?_⟩
              · go_simp; rfl
              simp only [Act.put, List.setIfInBounds_toArray, List.set_cons_succ, List.set_cons_zero] at ha
              subst ha
              refine wpSeq_take (by kernel_rfl) (by kernel_rfl) ?_
              apply Exists.intro
              refine ⟨fun wx hS => ?_, fun a' ha => ?_⟩
              · go_simp; rfl
              simp only [Act.put, List.setIfInBounds_toArray, List.set_cons_succ, List.set_cons_zero] at ha
              subst ha
              refine wpSeq_take (by kernel_rfl) (by kernel_rfl) ?_
              apply Exists.intro
              refine ⟨fun wx hS => ?_, fun a' ha => ?_⟩
              · go_simp; rfl
              simp only [Act.put, List.setIfInBounds_toArray, List.set_cons_succ, List.set_cons_zero] at ha
              subst ha
              refine wpSeq_take (by kernel_rfl) (by kernel_rfl) ?_
              apply Exists.intro
              refine ⟨fun wx hS => ?_, fun a' ha => ?_⟩
              · have c0 := Y2.out wx hS; go_simp; rfl
              simp only [Act.put, List.setIfInBounds_toArray, List.set_cons_succ, List.set_cons_zero] at ha
              subst ha
              refine wpSeq_take (by kernel_rfl) (by kernel_rfl) ?_
              apply Exists.intro
              refine ⟨fun wx hS => ?_, fun a' ha => ?_⟩
              · go_simp; rfl
              simp only [Act.put, List.setIfInBounds_toArray, List.set_cons_succ, List.set_cons_zero] at ha
              subst ha
              refine wpSeq_take (by kernel_rfl) (by kernel_rfl) ?_
              apply Exists.intro
              refine ⟨fun wx hS => ?_, fun a' ha => ?_⟩
              · go_simp; rfl
              simp only [Act.put, List.setIfInBounds_toArray, List.set_cons_succ, List.set_cons_zero] at ha
              subst ha
              refine wpSeq_take (by kernel_rfl) (by kernel_rfl) ?_
              apply Exists.intro
              refine ⟨fun wx hS => ?_, fun a' ha => ?_⟩
              · go_simp; rfl
              simp only [Act.put, List.setIfInBounds_toArray, List.set_cons_succ, List.set_cons_zero] at ha
              subst ha
              refine wpSeq_take (by kernel_rfl) (by kernel_rfl) ?_
              apply Exists.intro
              refine ⟨fun wx hS => ?_, fun a' ha => ?_⟩
              · go_simp; rfl
              simp only [Act.put, List.setIfInBounds_toArray, List.set_cons_succ, List.set_cons_zero] at ha
              subst ha
              refine wpSeq_take (by kernel_rfl) (by kernel_rfl) ?_
              apply Exists.intro
              refine ⟨fun wx hS => ?_, fun a' ha => ?_⟩
              · go_simp; rfl
              simp only [Act.put, List.setIfInBounds_toArray, List.set_cons_succ, List.set_cons_zero] at ha
              subst ha
              refine wpSeq_take (by kernel_rfl) (by kernel_rfl) ?_
              apply Exists.intro
              refine ⟨fun wx hS => ?_, fun a' ha => ?_⟩
              · go_simp; rfl
              simp only [Act.put, List.setIfInBounds_toArray, List.set_cons_succ, List.set_cons_zero] at ha
              subst ha
              refine wpSeq_take (by kernel_rfl) (by kernel_rfl) ?_
              apply Exists.intro
              refine ⟨fun wx hS => ?_, fun a' ha => ?_⟩
              · go_simp; rfl
              simp only [Act.put, List.setIfInBounds_toArray, List.set_cons_succ, List.set_cons_zero] at ha
              subst ha
              refine wpSeq_take (by kernel_rfl) (by kernel_rfl) ?_
              apply Exists.intro
              refine ⟨fun wx hS => ?_, fun a' ha => ?_⟩
              · have c0 := Y4.out wx hS; go_simp; rfl
              simp only [Act.put, List.setIfInBounds_toArray, List.set_cons_succ, List.set_cons_zero] at ha
              subst ha
              refine wpSeq_take (by kernel_rfl) (by kernel_rfl) ?_
              apply Exists.intro
              refine ⟨fun wx hS => ?_, fun a' ha => ?_⟩
              · go_simp; rfl
              simp only [Act.put, List.setIfInBounds_toArray, List.set_cons_succ, List.set_cons_zero] at ha
              subst ha
              refine wpSeq_take (by kernel_rfl) (by kernel_rfl) ?_
              apply Exists.intro
              refine ⟨fun wx hS => ?_, fun a' ha => ?_⟩
              · go_simp; rfl
              simp only [Act.put, List.setIfInBounds_toArray, List.set_cons_succ, List.set_cons_zero] at ha
              subst ha
              refine wpSeq_take (by kernel_rfl) (by kernel_rfl) ?_
              apply Exists.intro
              refine ⟨fun wx hS => ?_, fun a' ha => ?_⟩
              · go_simp; rfl
              simp only [Act.put, List.setIfInBounds_toArray, List.set_cons_succ, List.set_cons_zero] at ha
              subst ha
              refine wpSeq_take (by kernel_rfl) (by kernel_rfl) ?_
              apply Exists.intro
              refine ⟨fun wx hS => ?_, fun a' ha => ?_⟩
              · go_simp; rfl
              simp only [Act.put, List.setIfInBounds_toArray, List.set_cons_succ, List.set_cons_zero] at ha
              subst ha
              refine wpSeq_take (by kernel_rfl) (by kernel_rfl) ?_
              apply Exists.intro
              refine ⟨fun wx hS => ?_, fun a' ha => ?_⟩
              · go_simp; rfl
              simp only [Act.put, List.setIfInBounds_toArray, List.set_cons_succ, List.set_cons_zero] at ha
              subst ha
              refine wpSeq_take (by kernel_rfl) (by kernel_rfl) ?_
              apply Exists.intro
              refine ⟨fun wx hS => ?_, fun a' ha => ?_⟩
              · go_simp; rfl
              simp only [Act.put, List.setIfInBounds_toArray, List.set_cons_succ, List.set_cons_zero] at ha
              subst ha
              refine wpSeq_take (by kernel_rfl) (by kernel_rfl) ?_
              apply Exists.intro
              refine ⟨fun wx hS => ?_, fun a' ha => ?_⟩
              · go_simp; rfl
              simp only [Act.put, List.setIfInBounds_toArray, List.set_cons_succ, List.set_cons_zero] at ha
              subst ha
              refine wpSeq_take (by kernel_rfl) (by kernel_rfl) ?_
              apply Exists.intro
              refine ⟨fun wx hS => ?_, fun a' ha => ?_⟩
              · go_simp; rfl
              simp only [Act.put, List.setIfInBounds_toArray, List.set_cons_succ, List.set_cons_zero] at ha
              subst ha
              refine wpSeq_take (by kernel_rfl) (by kernel_rfl) ?_
              apply Exists.intro
              refine ⟨fun wx hS => ?_, fun a' ha => ?_⟩
              · have c0 := Y3.out wx hS; go_simp; rfl
              simp only [Act.put, List.setIfInBounds_toArray, List.set_cons_succ, List.set_cons_zero] at ha
              subst ha
              refine wpSeq_take (by kernel_rfl) (by kernel_rfl) ?_
              apply Exists.intro
              refine ⟨fun wx hS => ?_, fun a' ha => ?_⟩
              · go_simp; rfl
              simp only [Act.put, List.setIfInBounds_toArray, List.set_cons_succ, List.set_cons_zero] at ha
              subst ha
              refine wpSeq_take (by kernel_rfl) (by kernel_rfl) ?_
              apply Exists.intro
              refine ⟨fun wx hS => ?_, fun a' ha => ?_⟩
              · go_simp; rfl
              simp only [Act.put, List.setIfInBounds_toArray, List.set_cons_succ, List.set_cons_zero] at ha
              subst ha
              refine wpSeq_take (by kernel_rfl) (by kernel_rfl) ?_
              apply Exists.intro
              refine ⟨fun wx hS => ?_, fun a' ha => ?_⟩
              · go_simp; rfl
              simp only [Act.put, List.setIfInBounds_toArray, List.set_cons_succ, List.set_cons_zero] at ha
              subst ha
              refine wpSeq_take (by kernel_rfl) (by kernel_rfl) ?_
              apply Exists.intro
              refine ⟨fun wx hS => ?_, fun a' ha => ?_⟩
              · go_simp; rfl
              simp only [Act.put, List.setIfInBounds_toArray, List.set_cons_succ, List.set_cons_zero] at ha
              subst ha
              refine wpSeq_take (by kernel_rfl) (by kernel_rfl) ?_
              apply Exists.intro
              refine ⟨fun wx hS => ?_, fun a' ha => ?_⟩
              · go_simp; rfl
              simp only [Act.put, List.setIfInBounds_toArray, List.set_cons_succ, List.set_cons_zero] at ha
              subst ha
              refine wpSeq_take (by kernel_rfl) (by kernel_rfl) ?_
              apply Exists.intro
              refine ⟨fun wx hS => ?_, fun a' ha => ?_⟩
              · go_simp; rfl
              simp only [Act.put, List.setIfInBounds_toArray, List.set_cons_succ, List.set_cons_zero] at ha
              subst ha
              refine wpSeq_take (by kernel_rfl) (by kernel_rfl) ?_
              apply Exists.intro
              refine ⟨fun wx hS => ?_, fun a' ha => ?_⟩
              · go_simp; rfl
              simp only [Act.put, List.setIfInBounds_toArray, List.set_cons_succ, List.set_cons_zero] at ha
              subst ha
              refine wpSeq_take (by kernel_rfl) (by kernel_rfl) ?_
              apply Exists.intro
              refine ⟨fun wx hS => ?_, fun a' ha => ?_⟩
              · have c0 := X4.out wx hS; go_simp; rfl
              simp only [Act.put, List.setIfInBounds_toArray, List.set_cons_succ, List.set_cons_zero] at ha
              subst ha
              refine wpSeq_take (by kernel_rfl) (by kernel_rfl) ?_
              apply Exists.intro
              refine ⟨fun wx hS => ?_, fun a' ha => ?_⟩
              · go_simp; rfl
              simp only [Act.put, List.setIfInBounds_toArray, List.set_cons_succ, List.set_cons_zero] at ha
              subst ha
              refine wpSeq_take (by kernel_rfl) (by kernel_rfl) ?_
              apply Exists.intro
              refine ⟨fun wx hS => ?_, fun a' ha => ?_⟩
              · go_simp; rfl
              simp only [Act.put, List.setIfInBounds_toArray, List.set_cons_succ, List.set_cons_zero] at ha
              subst ha
              refine wpSeq_take (by kernel_rfl) (by kernel_rfl) ?_
              apply Exists.intro
              refine ⟨fun wx hS => ?_, fun a' ha => ?_⟩
              · go_simp; rfl
              simp only [Act.put, List.setIfInBounds_toArray, List.set_cons_succ, List.set_cons_zero] at ha
              subst ha
              refine wpSeq_take (by kernel_rfl) (by kernel_rfl) ?_
              apply Exists.intro
              refine ⟨fun wx hS => ?_, fun a' ha => ?_⟩
              · go_simp; rfl
              simp only [Act.put, List.setIfInBounds_toArray, List.set_cons_succ, List.set_cons_zero] at ha
              subst ha
              refine wpSeq_take (by kernel_rfl) (by kernel_rfl) ?_
              apply Exists.intro
              refine ⟨fun wx hS => ?_, fun a' ha => ?_⟩
              · go_simp; rfl
              simp only [Act.put, List.setIfInBounds_toArray, List.set_cons_succ, List.set_cons_zero] at ha
              subst ha
              refine wpSeq_take (by kernel_rfl) (by kernel_rfl) ?_
              apply Exists.intro
              refine ⟨fun wx hS => ?_, fun a' ha => ?_⟩
              · go_simp; rfl
              simp only [Act.put, List.setIfInBounds_toArray, List.set_cons_succ, List.set_cons_zero] at ha
              subst ha
              refine wpSeq_take (by kernel_rfl) (by kernel_rfl) ?_
              apply Exists.intro
              refine ⟨fun wx hS => ?_, fun a' ha => ?_⟩
              · go_simp; rfl
              simp only [Act.put, List.setIfInBounds_toArray, List.set_cons_succ, List.set_cons_zero] at ha
              subst ha
              refine wpSeq_take (by kernel_rfl) (by kernel_rfl) ?_
              apply Exists.intro
              refine ⟨fun wx hS => ?_, fun a' ha => ?_⟩
              · have c0 := X4.out wx hS; go_simp; rfl
              simp only [Act.put, List.setIfInBounds_toArray, List.set_cons_succ, List.set_cons_zero] at ha
              subst ha
              refine wpSeq_take (by kernel_rfl) (by kernel_rfl) ?_
              apply Exists.intro
              refine ⟨fun wx hS => ?_, fun a' ha => ?_⟩
              · go_simp; rfl
              simp only [Act.put, List.setIfInBounds_toArray, List.set_cons_succ, List.set_cons_zero] at ha
              subst ha
              refine wpSeq_take (by kernel_rfl) (by kernel_rfl) ?_
              apply Exists.intro
              refine ⟨fun wx hS => ?_, fun a' ha => ?_⟩
              · go_simp; rfl
              simp only [Act.put, List.setIfInBounds_toArray, List.set_cons_succ, List.set_cons_zero] at ha
              subst ha
              refine wpSeq_take (by kernel_rfl) (by kernel_rfl) ?_
              apply Exists.intro
              refine ⟨fun wx hS => ?_, fun a' ha => ?_⟩
              · go_simp; rfl
              simp only [Act.put, List.setIfInBounds_toArray, List.set_cons_succ, List.set_cons_zero] at ha
              subst ha
              refine wpSeq_take (by kernel_rfl) (by kernel_rfl) ?_
              apply Exists.intro
              refine ⟨fun wx hS => ?_, fun a' ha => ?_⟩
              · go_simp; rfl
              simp only [Act.put, List.setIfInBounds_toArray, List.set_cons_succ, List.set_cons_zero] at ha
              subst ha
              refine wpSeq_take (by kernel_rfl) (by kernel_rfl) ?_
              apply Exists.intro
              refine ⟨fun wx hS => ?_, fun a' ha => ?_⟩
              · go_simp; rfl
              simp only [Act.put, List.setIfInBounds_toArray, List.set_cons_succ, List.set_cons_zero] at ha
              subst ha
              refine wpSeq_take (by kernel_rfl) (by kernel_rfl) ?_
              apply Exists.intro
              refine ⟨fun wx hS => ?_, fun a' ha => ?_⟩
              · go_simp; rfl
              simp only [Act.put, List.setIfInBounds_toArray, List.set_cons_succ, List.set_cons_zero] at ha
              subst ha
              refine wpSeq_take (by kernel_rfl) (by kernel_rfl) ?_
              apply Exists.intro
              refine ⟨fun wx hS => ?_, fun a' ha => ?_⟩
              · go_simp; rfl
              simp only [Act.put, List.setIfInBounds_toArray, List.set_cons_succ, List.set_cons_zero] at ha
              subst ha
              refine wpSeq_take (by kernel_rfl) (by kernel_rfl) ?_
              apply Exists.intro
              refine ⟨fun wx hS => ?_, fun a' ha => ?_⟩
              · go_simp; rfl
              simp only [Act.put, List.setIfInBounds_toArray, List.set_cons_succ, List.set_cons_zero] at ha
              subst ha
              refine wpSeq_take (by kernel_rfl) (by kernel_rfl) ?_
              apply Exists.intro
              refine ⟨fun wx hS => ?_, fun a' ha => ?_⟩
              · go_simp; rfl
              simp only [Act.put, List.setIfInBounds_toArray, List.set_cons_succ, List.set_cons_zero] at ha
              subst ha
              refine wpSeq_take (by kernel_rfl) (by kernel_rfl) ?_
              apply Exists.intro
              refine ⟨fun wx hS => ?_, fun a' ha => ?_⟩
              · go_simp; rfl
              simp only [Act.put, List.setIfInBounds_toArray, List.set_cons_succ, List.set_cons_zero] at ha
              subst ha
              refine wpSeq_take (by kernel_rfl) (by kernel_rfl) ?_
              apply Exists.intro
              refine ⟨fun wx hS => ?_, fun a' ha => ?_⟩
              · have c0 := X4.out wx hS; go_simp; rfl
              simp only [Act.put, List.setIfInBounds_toArray, List.set_cons_succ, List.set_cons_zero] at ha
              subst ha
              refine wpSeq_take (by kernel_rfl) (by kernel_rfl) ?_
              apply Exists.intro
              refine ⟨fun wx hS => ?_, fun a' ha => ?_⟩
              · go_simp; rfl
              simp only [Act.put, List.setIfInBounds_toArray, List.set_cons_succ, List.set_cons_zero] at ha
              subst ha
              refine wpSeq_take (by kernel_rfl) (by kernel_rfl) ?_
              apply Exists.intro
              refine ⟨fun wx hS => ?_, fun a' ha => ?_⟩
              · have c0 := XA.out wx hS; go_simp; rfl
              simp only [Act.put, List.setIfInBounds_toArray, List.set_cons_succ, List.set_cons_zero] at ha
              subst ha
              refine wpSeq_take (by kernel_rfl) (by kernel_rfl) ?_
              apply Exists.intro
              refine ⟨fun wx hS => ?_, fun a' ha => ?_⟩
              · go_simp; rfl
              simp only [Act.put, List.setIfInBounds_toArray, List.set_cons_succ, List.set_cons_zero] at ha
              subst ha
              refine wpSeq_take (by kernel_rfl) (by kernel_rfl) ?_
              apply Exists.intro
              refine ⟨fun wx hS => ?_, fun a' ha => ?_⟩
              · go_simp; rfl
              simp only [Act.put, List.setIfInBounds_toArray, List.set_cons_succ, List.set_cons_zero] at ha
              subst ha
              unfold wpSeq
              have hud := (Upd.refl [] wr).drewN 1
              have BL2 := hide (hud.get BL.out (by simp)); have CX2 := hide (And.intro (cell_upd CX.out.1 hud (by simp)) (cell_upd CX.out.2 hud (by simp))); have CA2 := hide (cell_upd CA.out.1 hud (by simp)); have UR2 := hide (UR.out.drewN 1)
              clear hud X0 X1 X2 X4 Y0 Y1 Y2 Y3 Y4 XA CX CA q2 q3 q5 q6 q6' q7 ST SU
              generalize wr.drewN 1 = w9 at *
              go_upto_region 18 with fail
              obtain ⟨x3, x4⟩ := CX2.out
              have ca := CA2.out
              have fa : w9.frozen? ⟨H, t, none⟩ = false := blk_free BL2.out
              have hst := blk_set (i := t) (((Upd.refl [] w9).drewN 1).get BL2.out (by simp)) (nV wv)
              rw [List.setIfInBounds_toArray, ← at_step ND.out HTO.out] at hst
              have hset : Upd [H] w9 ((w9.drewN 1).setCell ⟨H, t, none⟩ (nV wv)) := ((Upd.refl [H] w9).drewN 1).setCell (p := ⟨H, t, none⟩) (.inl (by simp)) _
              have ST := hide hst; have SU := hide (UR2.out.trans hset)
              clear hst hset
              refine wp_region_z (fun wx => wx.cell? ⟨g, i * 5 + 4, none⟩ = some (.int .i64 (t : Int)) ∧ wx.cell? ⟨g, i * 5 + 3, none⟩ = some (.int .i64 (wv : Int))) 12 (by kernel_rfl) ?_
              refine wpAnyZ_takeE 0 rfl (by kernel_rfl) (by kernel_rfl) (by kernel_rfl) (by kernel_rfl) (fun _ _ _ _ h => h) rfl (by exact ⟨x4, x3⟩) ?_
              apply Exists.intro
              refine ⟨fun wx hS => ?_, ?_⟩
              · obtain ⟨s0, s1⟩ := hS; go_simp; rfl
              simp only [Act.put, List.setIfInBounds_toArray, List.set_cons_succ, List.set_cons_zero, List.getElem_toArray, List.getElem_cons_zero]
              refine wpAnyZ_takeE 1 rfl (by kernel_rfl) (by kernel_rfl) (by kernel_rfl) (by kernel_rfl) (fun _ _ _ _ h => h) rfl (by exact ⟨x4, x3⟩) ?_
              apply Exists.intro
              refine ⟨fun wx hS => ?_, ?_⟩
              · obtain ⟨s0, s1⟩ := hS; go_simp; rfl
              simp only [Act.put, List.setIfInBounds_toArray, List.set_cons_succ, List.set_cons_zero, List.getElem_toArray, List.getElem_cons_succ, List.getElem_cons_zero]
              refine wpAnyZ_takeE 2 rfl (by kernel_rfl) (by kernel_rfl) (by kernel_rfl) (by kernel_rfl) (fun _ _ _ _ h => h) rfl (by exact ⟨x4, x3⟩) ?_
              apply Exists.intro
              refine ⟨fun wx hS => ?_, ?_⟩
              · obtain ⟨s0, s1⟩ := hS; go_simp; rfl
              simp only [Act.put, List.setIfInBounds_toArray, List.set_cons_succ, List.set_cons_zero, List.getElem_toArray, List.getElem_cons_succ, List.getElem_cons_zero]
              refine wpAnyZ_takeE 3 rfl (by kernel_rfl) (by kernel_rfl) (by kernel_rfl) (by kernel_rfl) (fun _ _ _ _ h => h) rfl (by exact ⟨x4, x3⟩) ?_
              apply Exists.intro
              refine ⟨fun wx hS => ?_, ?_⟩
              · obtain ⟨s0, s1⟩ := hS; go_simp; rfl
              simp only [Act.put, List.setIfInBounds_toArray, List.set_cons_succ, List.set_cons_zero, List.getElem_toArray, List.getElem_cons_succ, List.getElem_cons_zero]
              refine wpAnyZ_takeE 4 rfl (by kernel_rfl) (by kernel_rfl) (by kernel_rfl) (by kernel_rfl) (fun _ _ _ _ h => h) rfl (by exact ⟨x4, x3⟩) ?_
              apply Exists.intro
              refine ⟨fun wx hS => ?_, ?_⟩
              · obtain ⟨s0, s1⟩ := hS; go_simp; rfl
              simp only [Act.put, List.setIfInBounds_toArray, List.set_cons_succ, List.set_cons_zero, List.getElem_toArray, List.getElem_cons_succ, List.getElem_cons_zero]
              refine wpAnyZ_takeE 5 rfl (by kernel_rfl) (by kernel_rfl) (by kernel_rfl) (by kernel_rfl) (fun _ _ _ _ h => h) rfl (by exact ⟨x4, x3⟩) ?_
              apply Exists.intro
              refine ⟨fun wx hS => ?_, ?_⟩
              · obtain ⟨s0, s1⟩ := hS; go_simp; rfl
              simp only [Act.put, List.setIfInBounds_toArray, List.set_cons_succ, List.set_cons_zero, List.getElem_toArray, List.getElem_cons_succ, List.getElem_cons_zero]
              refine wpAnyZ_takeE 6 rfl (by kernel_rfl) (by kernel_rfl) (by kernel_rfl) (by kernel_rfl) (fun _ _ _ _ h => h) rfl (by exact ⟨x4, x3⟩) ?_
              apply Exists.intro
              refine ⟨fun wx hS => ?_, ?_⟩
              · obtain ⟨s0, s1⟩ := hS; go_simp; rfl
              simp only [Act.put, List.setIfInBounds_toArray, List.set_cons_succ, List.set_cons_zero, List.getElem_toArray, List.getElem_cons_succ, List.getElem_cons_zero]
              refine wpAnyZ_takeE 7 rfl (by kernel_rfl) (by kernel_rfl) (by kernel_rfl) (by kernel_rfl) (fun _ _ _ _ h => h) rfl (by exact ⟨x4, x3⟩) ?_
              apply Exists.intro
              refine ⟨fun wx hS => ?_, ?_⟩
              · obtain ⟨s0, s1⟩ := hS; go_simp; rfl
              simp only [Act.put, List.setIfInBounds_toArray, List.set_cons_succ, List.set_cons_zero, List.getElem_toArray, List.getElem_cons_succ, List.getElem_cons_zero]
              refine wpAnyZ_takeE 8 rfl (by kernel_rfl) (by kernel_rfl) (by kernel_rfl) (by kernel_rfl) (fun _ _ _ _ h => h) rfl (by exact ⟨x4, x3⟩) ?_
              apply Exists.intro
              refine ⟨fun wx hS => ?_, ?_⟩
              · obtain ⟨s0, s1⟩ := hS; go_simp; rfl
              simp only [Act.put, List.setIfInBounds_toArray, List.set_cons_succ, List.set_cons_zero, List.getElem_toArray, List.getElem_cons_succ, List.getElem_cons_zero]
              refine wpAnyZ_takeE 9 rfl (by kernel_rfl) (by kernel_rfl) (by kernel_rfl) (by kernel_rfl) (fun _ _ _ _ h => h) rfl (by exact ⟨x4, x3⟩) ?_
              apply Exists.intro
              refine ⟨fun wx hS => ?_, ?_⟩
              · obtain ⟨s0, s1⟩ := hS; go_simp; rfl
              simp only [Act.put, List.setIfInBounds_toArray, List.set_cons_succ, List.set_cons_zero, List.getElem_toArray, List.getElem_cons_succ, List.getElem_cons_zero]
              refine wpAnyZ_takeE 10 rfl (by kernel_rfl) (by kernel_rfl) (by kernel_rfl) (by kernel_rfl) (fun _ _ _ _ h => h) rfl (by exact ⟨x4, x3⟩) ?_
              apply Exists.intro
              refine ⟨fun wx hS => ?_, ?_⟩
              · obtain ⟨s0, s1⟩ := hS; go_simp; rfl
              simp only [Act.put, List.setIfInBounds_toArray, List.set_cons_succ, List.set_cons_zero, List.getElem_toArray, List.getElem_cons_succ, List.getElem_cons_zero]
              refine wpAnyZ_takeE 11 rfl (by kernel_rfl) (by kernel_rfl) (by kernel_rfl) (by kernel_rfl) (fun _ _ _ _ h => h) rfl (by exact ⟨x4, x3⟩) ?_
              apply Exists.intro
              refine ⟨fun wx hS => ?_, ?_⟩
              · obtain ⟨s0, s1⟩ := hS; go_simp; rfl
              simp only [Act.put, List.setIfInBounds_toArray, List.set_cons_succ, List.set_cons_zero, List.getElem_toArray, List.getElem_cons_succ, List.getElem_cons_zero]
              refine wpAnyZ_one 12 (by kernel_rfl) rfl rfl (fun K hK => ?_)
              try simp only [List.getElem_toArray, List.getElem_cons_succ, List.getElem_cons_zero]
              go_simp
              refine hK _ _ (.inl rfl) ?_
              clear hK K
              try simp only [Act.put, List.setIfInBounds_toArray, List.set_cons_succ, List.set_cons_zero]
              refine wpAnyZ_done (by kernel_rfl) ?_ _
              change Exit.inBlock _ _ Exit.normal _ ((w9.drewN 1).setCell ⟨H, t, none⟩ (nV wv))
              generalize (w9.drewN 1).setCell ⟨H, t, none⟩ (nV wv) = w10 at *
              clear x3 x4 ca fa CX2 CA2 BL2 UR2
              go_wp2_with fail
              go_roundw
              case rel => exact ⟨i + 1, by omega, by go_num, ST.out, SU.out⟩
              case measure => simp [RowKit.intOf]; omega
            · have d7 : decide ((i : Int) < n) = false := by simp; omega
              have d7' : decide (i < n) = false := by simpa using hlt
              have hie : i = n := by omega
              subst hie
              have hb9 := BL.out
              rw [at_all OLT.out] at hb9
              have B9 := hide hb9; have U9 := hide (U8.out.trans_new UR.out (fun q hq => .inr (by simp at hq; omega)))
              clear hb9 BL UR U8 BK8 OW8 HB8 d7 d7' hlt hi
              obtain ⟨w9, hw9⟩ : ∃ w9, w9 = wr := ⟨_, rfl⟩
              subst hw9
              obtain ⟨n, hn⟩ : ∃ n, n = i := ⟨_, rfl⟩
              subst hn
              go_wp2_with fail
              go_loopw [14] (fun si wr => ∃ i : Nat, 1 ≤ i ∧ (i ≤ n ∨ i = 1) ∧ si = .int .i64 i ∧ Upd [] w9 wr) (fun si _ => n + 1 - (RowKit.intOf si).toNat)
              case atStart => exact ⟨1, by omega, .inr rfl, rfl, Upd.refl _ _⟩
              case round =>
                obtain ⟨i, hi1, hi, rfl, hur⟩ := hrel
                have UR := hide hur
                clear hur
                by_cases hlt : i < n
                · have d7 : decide ((i : Int) < n) = true := by simp; omega
                  have d7' : decide (i < n) = true := by simpa using hlt
                  obtain ⟨m, rfl⟩ : ∃ m, i = m + 1 := ⟨i - 1, by omega⟩
                  obtain ⟨p0, hp0⟩ : ∃ p, od[m]? = some p := ⟨_, List.getElem?_eq_getElem (by omega)⟩
                  obtain ⟨p1, hp1⟩ : ∃ p, od[m + 1]? = some p := ⟨_, List.getElem?_eq_getElem (by omega)⟩
                  have hle := RS.out m p0 p1 hp0 hp1
                  have hbk := UR.out.get B9.out (by simp)
                  have c0 : wr.cell? ⟨H, m, none⟩ = some (.int .i64 (p0.2 : Int)) := blk_cell hbk (by simp [hp0, nV])
                  have c1 : wr.cell? ⟨H, m + 1, none⟩ = some (.int .i64 (p1.2 : Int)) := blk_cell hbk (by simp [hp1, nV])
                  have q1 : decide ((p1.2 : Int) < (p0.2 : Int)) = false := by simp; omega
                  have q2 : decide (p1.2 < p0.2) = false := by simp; omega
                  have hwr : IntKind.i64.wrap (((m + 1 : Nat) : Int) - 1) = (m : Int) := by
                    rw [show (((m + 1 : Nat) : Int) - 1) = (m : Int) by omega]
                    first | (rw [IntKind.wrap_i64]; unfold wrap64; omega) | (rw [IntKind.wrap_i64] <;> omega)
                  have hmn : m < n := by omega
                  have hwr2 : IntKind.i64.wrap (m : Int) = (m : Int) := by
                    first | (rw [IntKind.wrap_i64]; unfold wrap64; omega) | (rw [IntKind.wrap_i64] <;> omega)
                  have X0 := hide (fun wx (hS : Upd [] wr wx) => cell_upd c0 hS (by simp)); have X1 := hide (fun wx (hS : Upd [] wr wx) => cell_upd c1 hS (by simp))
                  clear hp0 hp1 hle hbk c0 c1
                  go_upto_region 22 with fail
                  refine wp_region_seq alOps22 (by kernel_rfl) [] (Upd [] wr) (by kernel_rfl) (by kernel_rfl) (fun _ _ d _ _ h => by cases d <;> exact h) ((Upd.refl _ _).drewN 1) ?_
                  refine wpSeq_take (by kernel_rfl) (by kernel_rfl) ?_
                  apply Exists.intro
                  refine ⟨fun wx hS => ?_, fun a' ha => ?_⟩
                  · go_simp; rfl
                  simp only [Act.put, List.setIfInBounds_toArray, List.set_cons_succ, List.set_cons_zero] at ha
                  subst ha
                  refine wpSeq_take (by kernel_rfl) (by kernel_rfl) ?_
                  apply Exists.intro
                  refine ⟨fun wx hS => ?_, fun a' ha => ?_⟩
                  · go_simp; rfl
                  simp only [Act.put, List.setIfInBounds_toArray, List.set_cons_succ, List.set_cons_zero] at ha
                  subst ha
                  refine wpSeq_take (by kernel_rfl) (by kernel_rfl) ?_
                  apply Exists.intro
                  refine ⟨fun wx hS => ?_, fun a' ha => ?_⟩
                  · go_simp; rfl
                  simp only [Act.put, List.setIfInBounds_toArray, List.set_cons_succ, List.set_cons_zero] at ha
                  subst ha
                  refine wpSeq_take (by kernel_rfl) (by kernel_rfl) ?_
                  apply Exists.intro
                  refine ⟨fun wx hS => ?_, fun a' ha => ?_⟩
                  · have c1 := X1.out wx hS; go_simp; rfl
                  simp only [Act.put, List.setIfInBounds_toArray, List.set_cons_succ, List.set_cons_zero] at ha
                  subst ha
                  refine wpSeq_take (by kernel_rfl) (by kernel_rfl) ?_
                  apply Exists.intro
                  refine ⟨fun wx hS => ?_, fun a' ha => ?_⟩
                  · go_simp; rfl
                  simp only [Act.put, List.setIfInBounds_toArray, List.set_cons_succ, List.set_cons_zero] at ha
                  subst ha
                  refine wpSeq_take (by kernel_rfl) (by kernel_rfl) ?_
                  apply Exists.intro
                  refine ⟨fun wx hS => ?_, fun a' ha => ?_⟩
                  · go_simp; rfl
                  simp only [Act.put, List.setIfInBounds_toArray, List.set_cons_succ, List.set_cons_zero] at ha
                  subst ha
                  refine wpSeq_take (by kernel_rfl) (by kernel_rfl) ?_
                  apply Exists.intro
                  refine ⟨fun wx hS => ?_, fun a' ha => ?_⟩
                  · go_simp; rfl
                  simp only [Act.put, List.setIfInBounds_toArray, List.set_cons_succ, List.set_cons_zero] at ha
                  subst ha
                  refine wpSeq_take (by kernel_rfl) (by kernel_rfl) ?_
                  apply Exists.intro
                  refine ⟨fun wx hS => ?_, fun a' ha => ?_⟩
                  · go_simp; rfl
                  simp only [Act.put, List.setIfInBounds_toArray, List.set_cons_succ, List.set_cons_zero] at ha
                  subst ha
                  refine wpSeq_take (by kernel_rfl) (by kernel_rfl) ?_
                  apply Exists.intro
                  refine ⟨fun wx hS => ?_, fun a' ha => ?_⟩
                  · have c0 := X0.out wx hS; go_simp; rfl
                  simp only [Act.put, List.setIfInBounds_toArray, List.set_cons_succ, List.set_cons_zero] at ha
                  subst ha
                  refine wpSeq_take (by kernel_rfl) (by kernel_rfl) ?_
                  apply Exists.intro
                  refine ⟨fun wx hS => ?_, fun a' ha => ?_⟩
                  · go_simp; rfl
                  simp only [Act.put, List.setIfInBounds_toArray, List.set_cons_succ, List.set_cons_zero] at ha
                  subst ha
                  unfold wpSeq
                  have UD := hide (UR.out.drewN 1)
                  clear X0 X1
                  generalize wr.drewN 1 = w10 at *
                  go_wp2_with fail
                  go_roundw
                  case rel => exact ⟨m + 1 + 1, by omega, .inl (by omega), by go_num, UD.out⟩
                  case measure => simp [RowKit.intOf]; omega
                · have d7 : decide ((i : Int) < n) = false := by simp; omega
                  have d7' : decide (i < n) = false := by simpa using hlt
                  have UF := hide (U9.out.trans UR.out)
                  go_wp2_with fail
                  refine (wakes13_any wr (ENV.out.upd_nil UF.out)).mono ?_
                  rintro e wz ⟨rfl, huz⟩
                  have UZ := hide (UF.out.trans huz)
                  clear huz
                  go_wp2_with fail
                  go_ret
                  exact ⟨rfl, UZ.out⟩
end Go.Proofs.YteeepelmkfiocaaGreatDoor.Kv
