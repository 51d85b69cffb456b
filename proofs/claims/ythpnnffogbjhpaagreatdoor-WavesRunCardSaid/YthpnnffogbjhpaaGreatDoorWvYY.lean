/- WvY, WvYn in one text. -/
import Derived.Test.YthpnnffogbjhpaaGreatDoorWvWG
import Derived.Test.YthpnnffogbjhpaaGreatDoorGenAll
set_option linter.unusedSimpArgs false
set_option linter.unusedVariables false
set_option linter.unnecessarySimpa false
namespace Go.Proofs.YthpnnffogbjhpaaGreatDoor.Kv
set_option linter.unusedSimpArgs false
set_option linter.unusedVariables false
set_option linter.unnecessarySimpa false
open Go.RowKit Go.Lib Go.Proofs.YthpnnffogbjhpaaGreatDoor.Crc Go.Proofs.YthpnnffogbjhpaaGreatDoor.Cm

abbrev THand : TypeId := 122
theorem order_any {v0 v1 v2 : Value} (w : World) (h0 : v0.oneCell' = true) (h1 : v1.oneCell' = true) (h2 : v2.oneCell' = true) :
    Calls Tryz.prog 59 #[.agg #[v0, v1, v2]] w fun e w' => e = .returned (.func (.func 91) #[] #[.pointer (some ⟨w.heap.size, 0, none⟩)]) ∧
      w'.heap[w.heap.size]? = some (.cells (Value.agg #[v0, v1, v2]).cells THand (0, 0)) ∧ Upd [] w w' := by
  go_enter Tryz.func59, Tryz.ntmps59
  go_wp2_with fail
  go_ret
  exact ⟨rfl, blk_new _ _, (Upd.refl _ _).alloc _⟩
/-- The blocks of a table of picks. -/
def pbk (n : Nat) (xo : Option Addr) : List Nat := if n = 0 then [] else xo.toList.map (·.block)
theorem src_keepsV {w w' : World} {K : List Nat} {xo : Option Addr} {m cp : Nat} {xs : List Value} (h : SrcAt w xo m cp xs 1) (hk : Keeps K w w') (hK : ∀ k, k ∈ pbk m xo → k ∈ K) : SrcAt w' xo m cp xs 1 :=
  ⟨h.len, h.one, h.nil, fun a e j u hj => by
    have h1 := h.cells a e j u hj
    have hm : m ≠ 0 := by
      intro h0
      have := h.len
      rw [h0] at this
      simp at this
      rw [this] at hj
      simp at hj
    have h3 := hk.2 (a.add j).block (hK _ (by subst e; simp [pbk, hm, add_block]))
    rw [← h1]
    simp only [World.cell?, h3]⟩
/-- What the iterator stands on. -/
structure OdAt (W : World) (N0 p : Nat) (av xv : Value) (po : Option Addr) (pn pc : Nat) (ps : List Int) (go : Option Addr) (gs : List (List Nat)) : Prop where
  blk : W.heap[p]? = some (.cells #[av, xv, .func (.func 30) #[.slice po pn pc] #[]] THand (0, 0))
  src : SrcAt W po pn pc (ps.map pV) 1
  gs : GsAt W N0 go gs
  size : N0 ≤ W.heap.size
theorem OdAt.keep {W W' : World} {N0 p : Nat} {av xv : Value} {po : Option Addr} {pn pc : Nat} {ps : List Int} {go : Option Addr} {gs : List (List Nat)} (h : OdAt W N0 p av xv po pn pc ps go gs)
    (hk : Keeps (p :: pbk pn po) W W') (hf : KeepsFrom N0 W W') : OdAt W' N0 p av xv po pn pc ps go gs :=
  ⟨hk.get h.blk (by simp), src_keepsV h.src hk (fun k hk => List.mem_cons_of_mem _ hk), h.gs.keep hk.1 hf, Nat.le_trans h.size hk.1⟩
theorem OdAt.upd_nil {W W' : World} {N0 p : Nat} {av xv : Value} {po : Option Addr} {pn pc : Nat} {ps : List Int} {go : Option Addr} {gs : List (List Nat)} (h : OdAt W N0 p av xv po pn pc ps go gs)
    (hu : Upd [] W W') : OdAt W' N0 p av xv po pn pc ps go gs :=
  ⟨hu.get h.blk (by simp), srcS_upd h.src hu (by simp), h.gs.keep hu.size (keep_nil _ hu), Nat.le_trans h.size hu.size⟩
theorem orderG_cons {kf : Nat → Nat → Nat → Nat} {i : Nat} {gs : List (List Nat)} {g : List Nat} (h : gs[i]? = some g) : orderG kf i (gs.drop i) = (drain (kf i) g.length 0 g).map (fun x => (x, i)) ++ orderG kf (i + 1) (gs.drop (i + 1)) := by
  obtain ⟨hlt, rfl⟩ := List.getElem?_eq_some_iff.1 h
  rw [List.drop_eq_getElem_cons hlt]
  rfl
theorem grp_small {ws : List Nat} {top : Nat} {g : List Nat} (h : g ∈ groupsM ws top) : g.length ≤ ws.length := by
  obtain ⟨w, _, rfl⟩ := List.mem_map.1 h
  have := List.length_filter_le (fun i => decide (ws.getD i 0 = w)) (List.range ws.length)
  simpa using this
theorem func_some (po : Option Addr) (pn pc : Nat) (w : World) : (binOp .neq 69 (.func (.func 30) #[.slice po pn pc] #[]) .nilFunc).run Tryz.prog w = .ok (.bool true) w := by
  kernel_rfl
noncomputable def odOps11 : Array Oper := findOps 11 ((Tryz.f91.body).getD .skip)
set_option maxRecDepth 100000 in
set_option maxHeartbeats 4000000 in
theorem order_iter {T : Nat → Prop} {p cp po_n pc : Nat} {av : Value} {xo po : Option Addr} {cl : List Cm} {ps : List Int} (hsm : Small cl) (htp : topM (wavesM cl) ≤ 100) (hpn : po_n ≤ 200) :
    IterN Tryz.prog 91 #[] #[.pointer (some ⟨p, 0, none⟩)] (fun x : Nat × Nat => #[.int .i64 (x.1 : Int), .int .i64 (x.2 : Int)]) (orderM cl ps) (p :: pbk po_n po) []
      (fun W => W.heap[p]? = some (.cells #[av, .slice xo cl.length cp, .func (.func 30) #[.slice po po_n pc] #[]] THand (0, 0)) ∧ cmK.row W T (.slice xo cl.length cp) cl ∧ SrcAt W po po_n pc (ps.map pV) 1) := by
  rintro nn l0 J Jx W ⟨hR, hrow, hs⟩ hY hJ hJx hJ0
  refine callsIn_wide.2 ?_
  have hgl0 : ∀ g ∈ groupsM (wavesM cl) (topM (wavesM cl)), g.length ≤ 100 := fun g hg => by
    have h1 := grp_small hg
    have h2 : (wavesM cl).length = cl.length := waves_len cl ft0
    have := hsm.1
    omega
  have hfull : orderM cl ps = orderG (kfP ps) 0 (groupsM (wavesM cl) (topM (wavesM cl))) := rfl
  have hlen0 : (groupsM (wavesM cl) (topM (wavesM cl))).length = topM (wavesM cl) := by simp [groupsM]
  rw [hfull] at hY ⊢
  have hgr := fun w1 (h : cmK.row w1 T (.slice xo cl.length cp) cl) => groups_any w1 h hsm
  have HGR := hide hgr
  generalize groupsM (wavesM cl) (topM (wavesM cl)) = gs at *
  generalize topM (wavesM cl) = top at *
  have HR := hide hR; have HROW := hide hrow; have HS := hide hs
  have HY := hide hY; have HJ := hide hJ; have HJx := hide hJx; have HJ0 := hide hJ0; have HGL := hide hgl0; have HLEN := hide hlen0
  obtain ⟨N0, hN0⟩ : ∃ N, W.heap.size = N := ⟨_, rfl⟩
  have HN := hide hN0
  have c1 := blk_cell (i := 1) hR rfl
  simp only [List.getElem_toArray, List.getElem_cons_succ, List.getElem_cons_zero] at c1
  clear hR hrow hs hY hJ hJx hJ0 hgl0 hlen0 hgr hfull hN0 hsm
  go_enter Tryz.func91, Tryz.ntmps91
  go_wp2_with fail
  refine (HGR.out W HROW.out).mono ?_
  rintro e w1 ⟨⟨go, rfl, hgs1⟩, hu1⟩
  rw [HN.out] at hgs1
  have OD := hide (show OdAt w1 N0 p av (.slice xo cl.length cp) po po_n pc ps go gs from ⟨hu1.get HR.out (by simp), srcS_upd HS.out hu1 (by simp), hgs1, by have := hu1.size; have := HN.out; omega⟩)
  have HJ1 := hide (HJ.out _ _ _ HJ0.out hu1)
  clear hgs1 hu1 HR HS HROW HJ0 c1
  go_wp2_with fail
  go_loopw [13] (fun si wr => ∃ (i : Nat) (pre : List (Nat × Nat)), i ≤ top ∧ si = .int .i64 i ∧ pre ++ orderG (kfP ps) i (gs.drop i) = orderG (kfP ps) 0 gs ∧ J pre wr ∧ OdAt wr N0 p av (.slice xo cl.length cp) po po_n pc ps go gs) (fun si _ => top - (RowKit.intOf si).toNat)
  case atStart => exact ⟨0, [], by omega, rfl, rfl, HJ1.out, OD.out⟩
  case round =>
    obtain ⟨i, pre, hi, rfl, hpre, hj, hod⟩ := hrel
    have HPRE := hide hpre; have HJ2 := hide hj; have OD2 := hide hod
    clear hpre hj hod HJ1 OD
    by_cases hlt : i < top
    · have d7 : decide ((i : Int) < top) = true := by simp; omega
      have d7' : decide (i < top) = true := by simpa using hlt
      obtain ⟨g, hg⟩ : ∃ g, gs[i]? = some g := ⟨_, List.getElem?_eq_getElem (by have := HLEN.out; omega)⟩
      obtain ⟨gb, ao, cap, rfl, hgb, hgb2, hcell, hin⟩ := OD2.out.gs i g hg
      have hgn := HGL.out g (List.mem_of_getElem? hg)
      have HE := hide (orderG_cons (kf := kfP ps) hg)
      have HIN := hide hin
      clear hg hin
      go_wp2_with fail
      go_loopw [4, 5] (fun sl sd wr2 => ∃ (left : List Nat) (ao2 : Option Addr) (cap2 done : Nat) (pre2 : List (Nat × Nat)), sl = .slice ao2 left.length cap2 ∧ sd = .int .i64 done ∧ done + left.length = g.length ∧ IntsAt wr2 N0 ao2 left.length cap2 left ∧
        pre2 ++ ((drain (kfP ps i) left.length done left).map (fun x => (x, i)) ++ orderG (kfP ps) (i + 1) (gs.drop (i + 1))) = orderG (kfP ps) 0 gs ∧ J pre2 wr2 ∧ OdAt wr2 N0 p av (.slice xo cl.length cp) po po_n pc ps (some ⟨gb, 0, none⟩) gs) (fun sl _ _ => match sl with | .slice _ n _ => n | _ => 0)
      case atStart => exact ⟨g, ao, cap, 0, pre, rfl, rfl, by omega, HIN.out, by rw [← HE.out]; exact HPRE.out, HJ2.out, OD2.out⟩
      case round =>
        obtain ⟨left, ao2, cap2, done, pre2, rfl, rfl, hdn, hin2, hpre2, hj2, hod2⟩ := hrel
        have IN2 := hide hin2; have HPRE2 := hide hpre2; have HJ3 := hide hj2; have OD3 := hide hod2
        clear hin2 hpre2 hj2 hod2 HIN HPRE HJ2 OD2 hcell HE
        by_cases h0 : 0 < left.length
        · have d8 : decide ((left.length : Int) > 0) = true := by simp; omega
          have d9 : decide (0 < (left.length : Int)) = true := by simp; omega
          have c2 := blk_cell (i := 2) OD3.out.blk rfl
          simp only [List.getElem_toArray, List.getElem_cons_succ, List.getElem_cons_zero] at c2
          have hfn := func_some po po_n pc wr
          go_wp2_with fail
          refine (pick_any wr OD3.out.src hpn (a := i) (d := done) (n := left.length) (by omega) (by omega)).mono ?_
          rintro e w3 ⟨rfl, rfl⟩
          obtain ⟨x, hx⟩ : ∃ x, ps.getD (7 * i + done) 0 = x := ⟨_, rfl⟩
          obtain ⟨r, hr1, hr2, hr3, hr4, hr5⟩ := rem_pick h0 (by omega) hx
          obtain ⟨y, hy⟩ : ∃ y, left[kfP ps i done left.length]? = some y := ⟨_, List.getElem?_eq_getElem hr5⟩
          obtain ⟨a, rfl, hya⟩ := IN2.out.get hy
          have hgD : left.getD (kfP ps i done left.length) 0 = y := by simp [List.getD, hy]
          have hdr : drain (kfP ps i) left.length done left = y :: drain (kfP ps i) (left.length - 1) (done + 1) (left.eraseIdx (kfP ps i done left.length)) := by
            obtain ⟨m, hm⟩ : ∃ m, left.length = m + 1 := ⟨left.length - 1, by omega⟩
            rw [hm] at hgD ⊢
            simp only [drain, Nat.add_sub_cancel]
            rw [hgD]
          have hle := IN2.out.le
          have hmx := IN2.out.mx
          simp only [maxLen] at hmx
          obtain ⟨k, hk⟩ : ∃ k, kfP ps i done left.length = k := ⟨_, rfl⟩
          rw [hk] at hr4 hr5 hya hdr
          have HDR := hide hdr
          rw [hx]
          have z1 : ((left.length : Int) == 0) = false := by rw [beq_eq_false_iff_ne]; omega
          have z2 : (left.length : Int) ≠ 0 := by omega
          clear hdr hgD hx hk hy c2
          go_upto_region 11 with fail
          have s1 := fun wx => run_cut_hm (P := Tryz.prog) TSI TInt Tryz.underlying59 sizeI (some a) left.length cap2 k k (k : Int) (k : Int) rfl rfl (Nat.le_refl _) (by omega) wx
          have s2 := fun wx => run_cut_l (P := Tryz.prog) TSI TInt Tryz.underlying59 sizeI (some a) left.length cap2 (k + 1) ((k : Int) + 1) (by omega) (by omega) wx
          have hwr : IntKind.i64.wrap ((k : Int) + 1) = (k : Int) + 1 := by
            have hw1 : (k : Int) + 1 < 9223372036854775808 := by omega
            first | (rw [IntKind.wrap_i64]; unfold wrap64; omega) | (rw [IntKind.wrap_i64] <;> omega) | (simp only [IntKind.wrap]; unfold wrap64; omega) | (simp only [IntKind.wrap, IntKind.i64]; omega)
          clear hya
          refine wp_region_seq odOps11 (by kernel_rfl) [8] (fun _ => True) (by kernel_rfl) (by kernel_rfl) (fun _ _ d _ _ h => by cases d <;> exact h) trivial ?_
          refine wpSeq_take (by kernel_rfl) (by kernel_rfl) ?_
          apply Exists.intro
          refine ⟨fun wx hS => ?_, fun a' ha => ?_⟩
          · go_simp; rfl
          simp only [Act.put, List.setIfInBounds_toArray, List.set_cons_succ, List.set_cons_zero] at ha
          subst ha
          refine wpSeq_take (by kernel_rfl) (by kernel_rfl) ?_
          apply Exists.intro
          refine ⟨fun wx hS => ?_, fun a' ha => ?_⟩
          · go_simp; rfl
          simp only [Act.put, List.setIfInBounds_toArray, List.set_cons_succ, List.set_cons_zero] at ha
          subst ha
          refine wpSeq_take (by kernel_rfl) (by kernel_rfl) ?_
          apply Exists.intro
          refine ⟨fun wx hS => ?_, fun a' ha => ?_⟩
          · go_simp; rfl
          simp only [Act.put, List.setIfInBounds_toArray, List.set_cons_succ, List.set_cons_zero] at ha
          subst ha
          refine wpSeq_take (by kernel_rfl) (by kernel_rfl) ?_
          apply Exists.intro
          refine ⟨fun wx hS => ?_, fun a' ha => ?_⟩
          · have c0 := s1 wx; go_simp; rfl
          simp only [Act.put, List.setIfInBounds_toArray, List.set_cons_succ, List.set_cons_zero] at ha
          subst ha
          refine wpSeq_take (by kernel_rfl) (by kernel_rfl) ?_
          apply Exists.intro
          refine ⟨fun wx hS => ?_, fun a' ha => ?_⟩
          · go_simp; rfl
          simp only [Act.put, List.setIfInBounds_toArray, List.set_cons_succ, List.set_cons_zero] at ha
          subst ha
          refine wpSeq_take (by kernel_rfl) (by kernel_rfl) ?_
          apply Exists.intro
          refine ⟨fun wx hS => ?_, fun a' ha => ?_⟩
          · go_simp; rfl
          simp only [Act.put, List.setIfInBounds_toArray, List.set_cons_succ, List.set_cons_zero] at ha
          subst ha
          refine wpSeq_take (by kernel_rfl) (by kernel_rfl) ?_
          apply Exists.intro
          refine ⟨fun wx hS => ?_, fun a' ha => ?_⟩
          · go_simp; rfl
          simp only [Act.put, List.setIfInBounds_toArray, List.set_cons_succ, List.set_cons_zero] at ha
          subst ha
          refine wpSeq_take (by kernel_rfl) (by kernel_rfl) ?_
          apply Exists.intro
          refine ⟨fun wx hS => ?_, fun a' ha => ?_⟩
          · have c0 := s2 wx; go_simp; rfl
          simp only [Act.put, List.setIfInBounds_toArray, List.set_cons_succ, List.set_cons_zero] at ha
          subst ha
          refine wpSeq_one (by kernel_rfl) (by kernel_rfl) (fun K hK => ?_)
          obtain ⟨ao4, cap4, w4, hr4', hin4, hu4⟩ := run_strike (w := wr.drewN 1) (IN2.out.upd ((Upd.refl [] wr).drewN 1) (by simp)) hr5 (by omega) OD3.out.size
          refine wp_append_eq _ _ _ rfl rfl rfl hr4' ?_
          refine hK _ _ (trivial) ?_
          clear hK K
          try simp only [Act.put, List.setIfInBounds_toArray, List.set_cons_succ, List.set_cons_zero]
          refine wpSeq_take (by kernel_rfl) (by kernel_rfl) ?_
          apply Exists.intro
          refine ⟨fun wx hS => ?_, fun a' ha => ?_⟩
          · go_simp; rfl
          simp only [Act.put, List.setIfInBounds_toArray, List.set_cons_succ, List.set_cons_zero] at ha
          subst ha
          unfold wpSeq
          have hu4' := ((Upd.refl [] wr).drewN 1).trans hu4
          have IN4 := hide hin4; have HJ4 := hide (HJ.out _ _ _ HJ3.out hu4'); have OD4 := hide (OD3.out.upd_nil hu4')
          clear hin4 hu4 hu4' hr4' HJ3 OD3 IN2 s1 s2 hwr
          go_upto_region 12 with fail
          have hpre4 : pre2 ++ [(y, i)] ++ ((drain (kfP ps i) (left.length - 1) (done + 1) (left.eraseIdx k)).map (fun x => (x, i)) ++ orderG (kfP ps) (i + 1) (gs.drop (i + 1))) = orderG (kfP ps) 0 gs := by
            rw [← HPRE2.out, HDR.out]
            simp
          have hle4 : (left.eraseIdx k).length = left.length - 1 := by rw [List.length_eraseIdx, if_pos hr5]
          have HPRE4 := hide hpre4; have HLE4 := hide hle4
          obtain ⟨fn, tmps, assign, body, hy, hR⟩ := HY.out pre2 (y, i) w4 HJ4.out (by rw [← hpre4]; exact List.prefix_append _ _)
          replace hy : (Instr.yield l0 #[.int .i64 (y : Int), .int .i64 (i : Int)]).run Tryz.prog w4 = .ok (.round l0 fn tmps assign body) w4 := hy
          have HRR := hide hR
          clear hR hpre4 hle4 HPRE2 HDR
          refine (wpIn_wide (n := nn + 1)).1 ?_
          gi_wp2
          refine HRR.out.mono ?_
          rintro e W5 (⟨rfl, hj5, hk5, hf5⟩ | ⟨rfl, hjx5⟩)
          · rw [HN.out] at hf5
            have IN5 := hide (IN4.out.keep hf5); have OD5 := hide (OD4.out.keep hk5 hf5); have HJ5 := hide hj5
            clear hy HY hj5 hk5 hf5
            gi_wp2
            go_wp2_with fail
            refine ⟨⟨left.eraseIdx k, ao4, cap4, done + 1, pre2 ++ [(y, i)], by rw [HLE4.out], rfl, by rw [HLE4.out]; omega, by rw [HLE4.out]; exact IN5.out, by rw [HLE4.out]; exact HPRE4.out, HJ5.out, OD5.out⟩, ?_⟩
            show left.length - 1 < left.length
            omega
          · have HJ5 := hide hjx5
            clear hy HY hjx5
            gi_wp2
            go_wp2_with fail
            refine bodyPost_ret (results_none rfl _ _ _) rfl ?_
            exact ⟨⟨_, rfl⟩, .inr ⟨_, by rw [← HPRE4.out]; exact List.prefix_append _ _, HJ5.out⟩⟩
        · have hl0 : left.length = 0 := by omega
          have d8 : decide ((left.length : Int) > 0) = false := by rw [hl0]; rfl
          have d9 : decide (0 < (left.length : Int)) = false := by rw [hl0]; rfl
          have hpre6 : pre2 ++ orderG (kfP ps) (i + 1) (gs.drop (i + 1)) = orderG (kfP ps) 0 gs := by
            rw [← HPRE2.out, hl0]
            rfl
          have HPRE6 := hide hpre6
          clear hpre6 hl0 HPRE2
          go_wp2_with fail
          go_roundw
          case rel => exact ⟨i + 1, pre2, by omega, by go_num, HPRE6.out, HJ3.out, OD3.out⟩
          case measure => simp [RowKit.intOf]; omega
    · have d7 : decide ((i : Int) < top) = false := by simp; omega
      have d7' : decide (i < top) = false := by simpa using hlt
      have hit : i = top := by omega
      have hend : pre = orderG (kfP ps) 0 gs := by
        have h1 := HPRE.out
        rw [List.drop_eq_nil_of_le (by rw [HLEN.out]; omega)] at h1
        simpa [orderG] using h1
      have HE := hide hend
      clear hend hit
      go_wp2_with fail
      go_end0
      exact ⟨⟨_, rfl⟩, .inl (by rw [← HE.out]; exact HJ2.out)⟩
end Go.Proofs.YthpnnffogbjhpaaGreatDoor.Kv
namespace Go.Proofs.YthpnnffogbjhpaaGreatDoor.Kv
set_option linter.unusedSimpArgs false
set_option linter.unusedVariables false
set_option linter.unnecessarySimpa false
open Go.RowKit Go.Lib Go.Proofs.YthpnnffogbjhpaaGreatDoor.Crc Go.Proofs.YthpnnffogbjhpaaGreatDoor.Cm

theorem kfP_none {a d n : Nat} (hn : 0 < n) : kfP ([] : List Int) a d n = 0 := by
  unfold kfP
  simp
theorem add_nought (a : Addr) : a.add 0 = a := by
  cases a
  unfold Addr.add
  split <;> simp_all
/-- What the iterator stands on. -/
structure OdAtN (W : World) (N0 p : Nat) (av xv : Value) (go : Option Addr) (gs : List (List Nat)) : Prop where
  blk : W.heap[p]? = some (.cells #[av, xv, .nilFunc] THand (0, 0))
  gs : GsAt W N0 go gs
  size : N0 ≤ W.heap.size
theorem OdAtN.keep {W W' : World} {N0 p : Nat} {av xv : Value} {go : Option Addr} {gs : List (List Nat)} (h : OdAtN W N0 p av xv go gs)
    (hk : Keeps [p] W W') (hf : KeepsFrom N0 W W') : OdAtN W' N0 p av xv go gs :=
  ⟨hk.get h.blk (by simp), h.gs.keep hk.1 hf, Nat.le_trans h.size hk.1⟩
theorem OdAtN.upd_nil {W W' : World} {N0 p : Nat} {av xv : Value} {go : Option Addr} {gs : List (List Nat)} (h : OdAtN W N0 p av xv go gs)
    (hu : Upd [] W W') : OdAtN W' N0 p av xv go gs :=
  ⟨hu.get h.blk (by simp), h.gs.keep hu.size (keep_nil _ hu), Nat.le_trans h.size hu.size⟩
theorem func_none (w : World) : (binOp .neq 69 .nilFunc .nilFunc).run Tryz.prog w = .ok (.bool false) w := by
  kernel_rfl
noncomputable def odnOps11 : Array Oper := findOps 11 ((Tryz.f91.body).getD .skip)
set_option maxRecDepth 100000 in
set_option maxHeartbeats 4000000 in
theorem order_itern {T : Nat → Prop} {p cp : Nat} {av : Value} {xo : Option Addr} {cl : List Cm} (hsm : Small cl) (htp : topM (wavesM cl) ≤ 100) :
    IterN Tryz.prog 91 #[] #[.pointer (some ⟨p, 0, none⟩)] (fun x : Nat × Nat => #[.int .i64 (x.1 : Int), .int .i64 (x.2 : Int)]) (orderM cl []) [p] []
      (fun W => W.heap[p]? = some (.cells #[av, .slice xo cl.length cp, .nilFunc] THand (0, 0)) ∧ cmK.row W T (.slice xo cl.length cp) cl) := by
  rintro nn l0 J Jx W ⟨hR, hrow⟩ hY hJ hJx hJ0
  refine callsIn_wide.2 ?_
  have hgl0 : ∀ g ∈ groupsM (wavesM cl) (topM (wavesM cl)), g.length ≤ 100 := fun g hg => by
    have h1 := grp_small hg
    have h2 : (wavesM cl).length = cl.length := waves_len cl ft0
    have := hsm.1
    omega
  have hfull : orderM cl [] = orderG (kfP ([] : List Int)) 0 (groupsM (wavesM cl) (topM (wavesM cl))) := rfl
  have hlen0 : (groupsM (wavesM cl) (topM (wavesM cl))).length = topM (wavesM cl) := by simp [groupsM]
  rw [hfull] at hY ⊢
  have hgr := fun w1 (h : cmK.row w1 T (.slice xo cl.length cp) cl) => groups_any w1 h hsm
  have HGR := hide hgr
  generalize groupsM (wavesM cl) (topM (wavesM cl)) = gs at *
  generalize topM (wavesM cl) = top at *
  have HR := hide hR; have HROW := hide hrow
  have HY := hide hY; have HJ := hide hJ; have HJx := hide hJx; have HJ0 := hide hJ0; have HGL := hide hgl0; have HLEN := hide hlen0
  obtain ⟨N0, hN0⟩ : ∃ N, W.heap.size = N := ⟨_, rfl⟩
  have HN := hide hN0
  have c1 := blk_cell (i := 1) hR rfl
  simp only [List.getElem_toArray, List.getElem_cons_succ, List.getElem_cons_zero] at c1
  clear hR hrow hY hJ hJx hJ0 hgl0 hlen0 hgr hfull hN0 hsm
  go_enter Tryz.func91, Tryz.ntmps91
  go_wp2_with fail
  refine (HGR.out W HROW.out).mono ?_
  rintro e w1 ⟨⟨go, rfl, hgs1⟩, hu1⟩
  rw [HN.out] at hgs1
  have OD := hide (show OdAtN w1 N0 p av (.slice xo cl.length cp) go gs from ⟨hu1.get HR.out (by simp), hgs1, by have := hu1.size; have := HN.out; omega⟩)
  have HJ1 := hide (HJ.out _ _ _ HJ0.out hu1)
  clear hgs1 hu1 HR HROW HJ0 c1
  go_wp2_with fail
  go_loopw [13] (fun si wr => ∃ (i : Nat) (pre : List (Nat × Nat)), i ≤ top ∧ si = .int .i64 i ∧ pre ++ orderG (kfP ([] : List Int)) i (gs.drop i) = orderG (kfP ([] : List Int)) 0 gs ∧ J pre wr ∧ OdAtN wr N0 p av (.slice xo cl.length cp) go gs) (fun si _ => top - (RowKit.intOf si).toNat)
  case atStart => exact ⟨0, [], by omega, rfl, rfl, HJ1.out, OD.out⟩
  case round =>
    obtain ⟨i, pre, hi, rfl, hpre, hj, hod⟩ := hrel
    have HPRE := hide hpre; have HJ2 := hide hj; have OD2 := hide hod
    clear hpre hj hod HJ1 OD
    by_cases hlt : i < top
    · have d7 : decide ((i : Int) < top) = true := by simp; omega
      have d7' : decide (i < top) = true := by simpa using hlt
      obtain ⟨g, hg⟩ : ∃ g, gs[i]? = some g := ⟨_, List.getElem?_eq_getElem (by have := HLEN.out; omega)⟩
      obtain ⟨gb, ao, cap, rfl, hgb, hgb2, hcell, hin⟩ := OD2.out.gs i g hg
      have hgn := HGL.out g (List.mem_of_getElem? hg)
      have HE := hide (orderG_cons (kf := kfP ([] : List Int)) hg)
      have HIN := hide hin
      clear hg hin
      go_wp2_with fail
      go_loopw [4, 5] (fun sl sd wr2 => ∃ (left : List Nat) (ao2 : Option Addr) (cap2 done : Nat) (pre2 : List (Nat × Nat)), sl = .slice ao2 left.length cap2 ∧ sd = .int .i64 done ∧ done + left.length = g.length ∧ IntsAt wr2 N0 ao2 left.length cap2 left ∧
        pre2 ++ ((drain (kfP ([] : List Int) i) left.length done left).map (fun x => (x, i)) ++ orderG (kfP ([] : List Int)) (i + 1) (gs.drop (i + 1))) = orderG (kfP ([] : List Int)) 0 gs ∧ J pre2 wr2 ∧ OdAtN wr2 N0 p av (.slice xo cl.length cp) (some ⟨gb, 0, none⟩) gs) (fun sl _ _ => match sl with | .slice _ n _ => n | _ => 0)
      case atStart => exact ⟨g, ao, cap, 0, pre, rfl, rfl, by omega, HIN.out, by rw [← HE.out]; exact HPRE.out, HJ2.out, OD2.out⟩
      case round =>
        obtain ⟨left, ao2, cap2, done, pre2, rfl, rfl, hdn, hin2, hpre2, hj2, hod2⟩ := hrel
        have IN2 := hide hin2; have HPRE2 := hide hpre2; have HJ3 := hide hj2; have OD3 := hide hod2
        clear hin2 hpre2 hj2 hod2 HIN HPRE HJ2 OD2 hcell HE
        by_cases h0 : 0 < left.length
        · have d8 : decide ((left.length : Int) > 0) = true := by simp; omega
          have d9 : decide (0 < (left.length : Int)) = true := by simp; omega
          have c2 := blk_cell (i := 2) OD3.out.blk rfl
          simp only [List.getElem_toArray, List.getElem_cons_succ, List.getElem_cons_zero] at c2
          have hfn := func_none wr
          have hk0 : kfP ([] : List Int) i done left.length = 0 := kfP_none h0
          obtain ⟨y, hy⟩ : ∃ y, left[0]? = some y := ⟨_, List.getElem?_eq_getElem h0⟩
          obtain ⟨a, rfl, hya⟩ := IN2.out.get hy
          have hya' : wr.cell? a = some (.int .i64 (y : Int)) := by rw [← hya, add_nought]
          have hgD : left.getD 0 0 = y := by simp [List.getD, hy]
          have hdr : drain (kfP ([] : List Int) i) left.length done left = y :: drain (kfP ([] : List Int) i) (left.length - 1) (done + 1) (left.eraseIdx 0) := by
            obtain ⟨m, hm⟩ : ∃ m, left.length = m + 1 := ⟨left.length - 1, by omega⟩
            rw [hm] at hk0 ⊢
            simp only [drain, Nat.add_sub_cancel]
            rw [hk0, hgD]
          have hle := IN2.out.le
          have hmx := IN2.out.mx
          simp only [maxLen] at hmx
          have HDR := hide hdr
          clear hdr hgD hy hk0
          go_upto_region 11 with fail
          clear c2
          have s1 := fun wx => run_cut_hm (P := Tryz.prog) TSI TInt Tryz.underlying59 sizeI (some a) left.length cap2 0 0 (0 : Int) (0 : Int) rfl rfl (Nat.le_refl _) (by omega) wx
          have s2 := fun wx => run_cut_l (P := Tryz.prog) TSI TInt Tryz.underlying59 sizeI (some a) left.length cap2 1 (1 : Int) (by omega) (by omega) wx
          have hwr : IntKind.i64.wrap 1 = 1 := IntWalk.i64_in _ (by omega)
          clear hya hya'
          refine wp_region_seq odnOps11 (by kernel_rfl) [8] (fun _ => True) (by kernel_rfl) (by kernel_rfl) (fun _ _ d _ _ h => by cases d <;> exact h) trivial ?_
          refine wpSeq_take (by kernel_rfl) (by kernel_rfl) ?_
          apply Exists.intro
          refine ⟨fun wx hS => ?_, fun a' ha => ?_⟩
          · go_simp; rfl
          simp only [Act.put, List.setIfInBounds_toArray, List.set_cons_succ, List.set_cons_zero] at ha
          subst ha
          refine wpSeq_take (by kernel_rfl) (by kernel_rfl) ?_
          apply Exists.intro
          refine ⟨fun wx hS => ?_, fun a' ha => ?_⟩
          · go_simp; rfl
          simp only [Act.put, List.setIfInBounds_toArray, List.set_cons_succ, List.set_cons_zero] at ha
          subst ha
          refine wpSeq_take (by kernel_rfl) (by kernel_rfl) ?_
          apply Exists.intro
          refine ⟨fun wx hS => ?_, fun a' ha => ?_⟩
          · go_simp; rfl
          simp only [Act.put, List.setIfInBounds_toArray, List.set_cons_succ, List.set_cons_zero] at ha
          subst ha
          refine wpSeq_take (by kernel_rfl) (by kernel_rfl) ?_
          apply Exists.intro
          refine ⟨fun wx hS => ?_, fun a' ha => ?_⟩
          · have c0 := s1 wx; go_simp; rfl
          simp only [Act.put, List.setIfInBounds_toArray, List.set_cons_succ, List.set_cons_zero] at ha
          subst ha
          refine wpSeq_take (by kernel_rfl) (by kernel_rfl) ?_
          apply Exists.intro
          refine ⟨fun wx hS => ?_, fun a' ha => ?_⟩
          · go_simp; rfl
          simp only [Act.put, List.setIfInBounds_toArray, List.set_cons_succ, List.set_cons_zero] at ha
          subst ha
          refine wpSeq_take (by kernel_rfl) (by kernel_rfl) ?_
          apply Exists.intro
          refine ⟨fun wx hS => ?_, fun a' ha => ?_⟩
          · go_simp; rfl
          simp only [Act.put, List.setIfInBounds_toArray, List.set_cons_succ, List.set_cons_zero] at ha
          subst ha
          refine wpSeq_take (by kernel_rfl) (by kernel_rfl) ?_
          apply Exists.intro
          refine ⟨fun wx hS => ?_, fun a' ha => ?_⟩
          · go_simp; rfl
          simp only [Act.put, List.setIfInBounds_toArray, List.set_cons_succ, List.set_cons_zero] at ha
          subst ha
          refine wpSeq_take (by kernel_rfl) (by kernel_rfl) ?_
          apply Exists.intro
          refine ⟨fun wx hS => ?_, fun a' ha => ?_⟩
          · have c0 := s2 wx; go_simp; rfl
          simp only [Act.put, List.setIfInBounds_toArray, List.set_cons_succ, List.set_cons_zero] at ha
          subst ha
          refine wpSeq_one (by kernel_rfl) (by kernel_rfl) (fun K hK => ?_)
          obtain ⟨ao4, cap4, w4, hr4', hin4, hu4⟩ := run_strike (w := wr.drewN 1) (k := 0) (IN2.out.upd ((Upd.refl [] wr).drewN 1) (by simp)) h0 (by omega) OD3.out.size
          refine wp_append_eq _ _ _ rfl rfl rfl hr4' ?_
          refine hK _ _ (trivial) ?_
          clear hK K
          try simp only [Act.put, List.setIfInBounds_toArray, List.set_cons_succ, List.set_cons_zero]
          refine wpSeq_take (by kernel_rfl) (by kernel_rfl) ?_
          apply Exists.intro
          refine ⟨fun wx hS => ?_, fun a' ha => ?_⟩
          · go_simp; rfl
          simp only [Act.put, List.setIfInBounds_toArray, List.set_cons_succ, List.set_cons_zero] at ha
          subst ha
          unfold wpSeq
          have hu4' := ((Upd.refl [] wr).drewN 1).trans hu4
          have IN4 := hide hin4; have HJ4 := hide (HJ.out _ _ _ HJ3.out hu4'); have OD4 := hide (OD3.out.upd_nil hu4')
          clear hin4 hu4 hu4' hr4' HJ3 OD3 IN2 s1 s2
          go_upto_region 12 with fail
          have hpre4 : pre2 ++ [(y, i)] ++ ((drain (kfP ([] : List Int) i) (left.length - 1) (done + 1) (left.eraseIdx 0)).map (fun x => (x, i)) ++ orderG (kfP ([] : List Int)) (i + 1) (gs.drop (i + 1))) = orderG (kfP ([] : List Int)) 0 gs := by
            rw [← HPRE2.out, HDR.out]
            simp
          have hle4 : (left.eraseIdx 0).length = left.length - 1 := by rw [List.length_eraseIdx, if_pos h0]
          have HPRE4 := hide hpre4; have HLE4 := hide hle4
          obtain ⟨fn, tmps, assign, body, hy, hR⟩ := HY.out pre2 (y, i) w4 HJ4.out (by rw [← hpre4]; exact List.prefix_append _ _)
          replace hy : (Instr.yield l0 #[.int .i64 (y : Int), .int .i64 (i : Int)]).run Tryz.prog w4 = .ok (.round l0 fn tmps assign body) w4 := hy
          have HRR := hide hR
          clear hR hpre4 hle4 HPRE2 HDR
          refine (wpIn_wide (n := nn + 1)).1 ?_
          gi_wp2
          refine HRR.out.mono ?_
          rintro e W5 (⟨rfl, hj5, hk5, hf5⟩ | ⟨rfl, hjx5⟩)
          · rw [HN.out] at hf5
            have IN5 := hide (IN4.out.keep hf5); have OD5 := hide (OD4.out.keep hk5 hf5); have HJ5 := hide hj5
            clear hy HY hj5 hk5 hf5
            gi_wp2
            go_wp2_with fail
            refine ⟨⟨left.eraseIdx 0, ao4, cap4, done + 1, pre2 ++ [(y, i)], by rw [HLE4.out], rfl, by rw [HLE4.out]; omega, by rw [HLE4.out]; exact IN5.out, by rw [HLE4.out]; exact HPRE4.out, HJ5.out, OD5.out⟩, ?_⟩
            show left.length - 1 < left.length
            omega
          · have HJ5 := hide hjx5
            clear hy HY hjx5
            gi_wp2
            go_wp2_with fail
            refine bodyPost_ret (results_none rfl _ _ _) rfl ?_
            exact ⟨⟨_, rfl⟩, .inr ⟨_, by rw [← HPRE4.out]; exact List.prefix_append _ _, HJ5.out⟩⟩
        · have hl0 : left.length = 0 := by omega
          have d8 : decide ((left.length : Int) > 0) = false := by rw [hl0]; rfl
          have d9 : decide (0 < (left.length : Int)) = false := by rw [hl0]; rfl
          have hpre6 : pre2 ++ orderG (kfP ([] : List Int)) (i + 1) (gs.drop (i + 1)) = orderG (kfP ([] : List Int)) 0 gs := by
            rw [← HPRE2.out, hl0]
            rfl
          have HPRE6 := hide hpre6
          clear hpre6 hl0 HPRE2
          go_wp2_with fail
          go_roundw
          case rel => exact ⟨i + 1, pre2, by omega, by go_num, HPRE6.out, HJ3.out, OD3.out⟩
          case measure => simp [RowKit.intOf]; omega
    · have d7 : decide ((i : Int) < top) = false := by simp; omega
      have d7' : decide (i < top) = false := by simpa using hlt
      have hit : i = top := by omega
      have hend : pre = orderG (kfP ([] : List Int)) 0 gs := by
        have h1 := HPRE.out
        rw [List.drop_eq_nil_of_le (by rw [HLEN.out]; omega)] at h1
        simpa [orderG] using h1
      have HE := hide hend
      clear hend hit
      go_wp2_with fail
      go_end0
      exact ⟨⟨_, rfl⟩, .inl (by rw [← HE.out]; exact HJ2.out)⟩
end Go.Proofs.YthpnnffogbjhpaaGreatDoor.Kv
