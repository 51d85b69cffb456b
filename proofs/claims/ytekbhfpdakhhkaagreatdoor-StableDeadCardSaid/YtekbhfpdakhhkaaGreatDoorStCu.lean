/- What a set does: cut. -/
import Derived.Test.YtekbhfpdakhhkaaGreatDoorStV
import Derived.Maps.RangeWalk
namespace Go.Proofs.YtekbhfpdakhhkaaGreatDoor
open Go.RowKit Go.ChangeMaps Go.WideShapes
section
variable {P : Program} {κ α : Type} {M : MapKind P κ α} {w w' : World} {g r n : Nat} {l : List (κ × α)} {left : Lit → Bool} {cnt : Nat} {ops : Array Oper} {rest : List Oper} {o : Oper} {a : Act} {Q : Exit → Act → World → Prop}
theorem wpList_delete_map [DecidableEq κ] (hg : o.guard = none) (m x : Operand) (hop : o.op = Op.call { callee := Callee.builtin Builtin.delete, args := #[m, x], argTypes := #[M.t, M.kt] }) (hm : a.eval m = .map (some g)) (h : M.rng w g r l left cnt) {k : κ} (hx : a.eval x = M.kv k) (hk : M.okk k)
    (hK : ∀ w' cnt', M.rng w' g r (mdel l k) (fun z => left z && !z.sameKey (M.K.lit k)) cnt' → cnt' ≤ cnt → Upd [g] w w' → wpList P ops Q rest (a.put o.dst (.tuple #[])) w') :
    wpList P ops Q (o :: rest) a w :=
  wpList_delete_ranges w hg m x M.t M.kt hop M.et M.keyed M.ht M.R g r l.length (toD M.K M.dat l) left cnt hm h (M.kv k) (M.K.lit k) hx (M.hkey hk) fun w' cnt' h1 h2 h3 => by
    refine hK w' cnt' ?_ h2 (upd_of_grownRow h3.grown)
    rw [toD_del] at h1
    obtain ⟨es, clock, since, seen, c0, g1, g2, g3, g4, g5⟩ := h1
    refine ⟨es, clock, since, seen, c0, g1, g2, ?_, g4, g5⟩
    have := congrArg Maps.size g4
    rw [toD_size] at this
    rw [this]
    simp [Maps.size, length_sorted]
end
namespace St
set_option linter.unusedSimpArgs false
set_option linter.unusedVariables false
set_option linter.unnecessarySimpa false
open Go.RowKit Go.Lib Go.Proofs.YtekbhfpdakhhkaaGreatDoor.Crc Go.Proofs.YtekbhfpdakhhkaaGreatDoor.Var Go.Proofs.YtekbhfpdakhhkaaGreatDoor.DiskW
section
variable {E : List Nat} {S L D g base : Nat} {so : Option Addr} {sn sc : Nat} {bv : Value} {d : DS} {s : Sto}
/-- The votes up to a slot are gone. -/
theorem votes_cut {w w' : World} {X : List Nat} {vs : List (Nat × Vo)} {b : Nat} (h : VotesAt w D X g vs) {l l' : List (Nat × VR)} (hu : Upd [g] w w') (hD : D < w.heap.size) (hg : g ∈ X) (h3 : ∀ k, mfind vs k = none → mfind l k = none) (h4 : ∀ k v, mfind vs k = some v → ∃ x, mfind l k = some x ∧ VrSays w D X k v x)
    (h1 : vtK.is w' g l') (h2 : Rise slotK l') (hf : ∀ k, mfind l' k = if k ≤ b then none else mfind l k) : VotesAt w' D X g (vs.filter fun p => !decide (p.1 ≤ b)) := by
  have hne : D ∉ [g] := by simpa using fun e => h.safe.ne e.symm
  have hff : ∀ k, mfind (vs.filter fun p => !decide (p.1 ≤ b)) k = if k ≤ b then none else mfind vs k := fun k => by
    have := mfind_filter (l := vs) (f := fun q => !decide (q ≤ b)) (k := k)
    rw [this]
    by_cases hk : k ≤ b <;> simp [hk]
  refine ⟨⟨l', h1, h2, fun k hk => ?_, fun k v hv => ?_⟩, h.safe.upd hu hD hne⟩
  · rw [hf]
    rw [hff] at hk
    split
    · rfl
    · rename_i hb
      rw [if_neg hb] at hk
      exact h3 k hk
  · rw [hff] at hv
    rw [hf]
    split at hv
    · cases hv
    · rename_i hb
      obtain ⟨x, g1, g2, g3, g4, g5⟩ := h4 k v hv
      exact ⟨x, by rw [if_neg hb]; exact g1, g2, g3, g4, g5.upd hu hD hne (by simpa using hg)⟩
noncomputable def cutOps1 : Array Oper := findOps 1 ((Tryz.f70.body).getD .skip)
set_option maxRecDepth 100000 in
set_option maxHeartbeats 2000000 in
theorem cut_any (w : World) (h : StoAt E w S L D g base so sn sc bv d s) (x : SetM) (xo : Option Addr) (xn xc : Nat) (hb : Lies w D [S, L, g] xo xn xc x.bytes) (hn : xn ≤ 1000000) (hsl : x.slot < 18446744073709551616) (hvo : ∀ p ∈ s.votes, p.1 < 18446744073709551616) :
    Calls Tryz.prog 70 #[.pointer (some ⟨S, 0, none⟩), setV x (.slice xo xn xc)] w fun e w' => e = .returned (.tuple #[]) ∧ (∃ so' sn' sc', StoAt E w' S L D g base so' sn' sc' bv d { s with base := x.slot, snap := x.bytes, votes := s.votes.filter fun p => !decide (p.1 ≤ x.slot) }) ∧ Upd [S, g] w w' := by
  obtain ⟨n1, n2, n3, n4, n5, n6⟩ := h.nes
  have hDl := blk_lt h.dsk.hD
  have hSl := blk_lt h.blk
  obtain ⟨k, slot, ⟨n, r⟩, bytes⟩ := x
  simp only at hb hsl ⊢
  have hX := blk_new w (setC k slot n r (.slice xo xn xc))
  have hu := (Upd.refl [] w).alloc (setC k slot n r (.slice xo xn xc))
  have h2 := h.upd_nil hu
  have hb2 := hb.upd hu hDl (by simp) (by simp)
  clear h hb
  go_enter Tryz.func70, Tryz.ntmps70
  go_upto_region 1 with fail
  generalize w.alloc (setC k slot n r (.slice xo xn xc)) = w2 at *
  obtain ⟨B, hBn⟩ : ∃ B, w.heap.size = B := ⟨_, rfl⟩
  have hBS : B ∉ [S] := by simp; omega
  rw [hBn] at hX ⊢
  have X1 := hide (show w2.cell? ⟨B, 1, none⟩ = some (.int .u64 (slot : Int)) from blk_cell hX rfl)
  have X4 := hide (show w2.cell? ⟨B, 4, none⟩ = some (.slice xo xn xc) from blk_cell hX rfl)
  have H2 := hide h2; have B2 := hide hb2; have U2 := hide hu; have BS := hide hBS
  clear hX hu h2 hb2 hBS hBn
  have s0 : Upd [S] w2 (w2.drewN 1) := (Upd.refl _ w2).drewN 1
  have d0 : Upd [] w2 (w2.drewN 1) := (Upd.refl _ w2).drewN 1
  refine wp_region_seqP cutOps1 (by kernel_rfl) [6, 9, 12] [0, 1, 2, 3, 4, 5, 6, 7, 8, 9, 10, 11, 12] (fun wx => Upd [S] w2 wx) (by kernel_rfl) (by kernel_rfl) (fun _ _ d _ _ h => by cases d <;> exact h) s0 ?_
  simp only [pickO, List.filterMap_cons, List.filterMap_nil, List.getElem?_cons_succ, List.getElem?_cons_zero]
  refine wpSeqP_take (by kernel_rfl) (by kernel_rfl) ?_
  apply Exists.intro
  refine ⟨fun wx hS => ?_, fun a' ha => ?_⟩
  · go_simp; rfl
  simp only [Act.put, List.setIfInBounds_toArray, List.set_cons_succ, List.set_cons_zero] at ha
  subst ha
  refine wpSeqP_take (by kernel_rfl) (by kernel_rfl) ?_
  apply Exists.intro
  refine ⟨fun wx hS => ?_, fun a' ha => ?_⟩
  · go_simp; rfl
  simp only [Act.put, List.setIfInBounds_toArray, List.set_cons_succ, List.set_cons_zero] at ha
  subst ha
  refine wpSeqP_take (by kernel_rfl) (by kernel_rfl) ?_
  apply Exists.intro
  refine ⟨fun wx hS => ?_, fun a' ha => ?_⟩
  · go_simp; rfl
  simp only [Act.put, List.setIfInBounds_toArray, List.set_cons_succ, List.set_cons_zero] at ha
  subst ha
  refine wpSeqP_take (by kernel_rfl) (by kernel_rfl) ?_
  apply Exists.intro
  refine ⟨fun wx hS => ?_, fun a' ha => ?_⟩
  · have c0 := Rec.cell_keep hS X1.out BS.out; go_simp; rfl
  simp only [Act.put, List.setIfInBounds_toArray, List.set_cons_succ, List.set_cons_zero] at ha
  subst ha
  refine wpSeqP_take (by kernel_rfl) (by kernel_rfl) ?_
  apply Exists.intro
  refine ⟨fun wx hS => ?_, fun a' ha => ?_⟩
  · go_simp; rfl
  simp only [Act.put, List.setIfInBounds_toArray, List.set_cons_succ, List.set_cons_zero] at ha
  subst ha
  refine wpSeqP_take (by kernel_rfl) (by kernel_rfl) ?_
  apply Exists.intro
  refine ⟨fun wx hS => ?_, fun a' ha => ?_⟩
  · have c0 := Rec.cell_keep hS X4.out BS.out; go_simp; rfl
  simp only [Act.put, List.setIfInBounds_toArray, List.set_cons_succ, List.set_cons_zero] at ha
  subst ha
  refine wpSeqP_one (by kernel_rfl) (by kernel_rfl) (fun K hK => ?_)
  go_simp
  refine (clone_any (w2.drewN 1) (src_upd B2.out.src d0 (by simp)) (by omega)).mono ?_
  rintro e w3 ⟨⟨ao, cap, rfl, ho⟩, hu3⟩
  have h3 := H2.out.upd_nil (d0.trans hu3)
  have hl3 : Lies w3 D (S :: L :: g :: E) ao xn cap bytes := lies_new (H2.out.upd_nil d0).dsk hu3 ho (by
    have := d0.size
    have h5 := H2.out.sS.lt
    have h6 := H2.out.sL.lt
    have h7 := H2.out.vts.safe.lt
    simp only [List.mem_cons]
    rintro k (rfl | rfl | rfl | hk)
    · omega
    · omega
    · omega
    · have := H2.out.ext k hk; omega)
  have s3 := s0.trans (hu3.mono (by simp))
  have H3 := hide h3; have L3 := hide hl3; have U3 := hide (U2.out.trans (d0.trans hu3))
  clear ho hu3 h3 hl3
  refine hK _ _ (s3) ?_
  clear hK K
  try simp only [Act.put, List.setIfInBounds_toArray, List.set_cons_succ, List.set_cons_zero]
  refine wpSeqP_take (by kernel_rfl) (by kernel_rfl) ?_
  apply Exists.intro
  refine ⟨fun wx hS => ?_, fun a' ha => ?_⟩
  · go_simp; rfl
  simp only [Act.put, List.setIfInBounds_toArray, List.set_cons_succ, List.set_cons_zero] at ha
  subst ha
  refine wpSeqP_take (by kernel_rfl) (by kernel_rfl) ?_
  apply Exists.intro
  refine ⟨fun wx hS => ?_, fun a' ha => ?_⟩
  · go_simp; rfl
  simp only [Act.put, List.setIfInBounds_toArray, List.set_cons_succ, List.set_cons_zero] at ha
  subst ha
  have y3 := blk_cell (i := 3) H3.out.blk rfl
  have f3 := blk_free (i := 3) H3.out.blk
  refine wpSeqP_one (by kernel_rfl) (by kernel_rfl) (fun K hK => ?_)
  go_simp
  have hb4 := blk_set (i := 3) H3.out.blk (.int .u64 (slot : Int))
  have s4 := s3.setCell (p := ⟨S, 3, none⟩) (.inl (by simp)) (.int .u64 (slot : Int))
  refine hK _ _ (s4) ?_
  clear hK K
  try simp only [Act.put, List.setIfInBounds_toArray, List.set_cons_succ, List.set_cons_zero]
  refine wpSeqP_take (by kernel_rfl) (by kernel_rfl) ?_
  apply Exists.intro
  refine ⟨fun wx hS => ?_, fun a' ha => ?_⟩
  · go_simp; rfl
  simp only [Act.put, List.setIfInBounds_toArray, List.set_cons_succ, List.set_cons_zero] at ha
  subst ha
  refine wpSeqP_take (by kernel_rfl) (by kernel_rfl) ?_
  apply Exists.intro
  refine ⟨fun wx hS => ?_, fun a' ha => ?_⟩
  · go_simp; rfl
  simp only [Act.put, List.setIfInBounds_toArray, List.set_cons_succ, List.set_cons_zero] at ha
  subst ha
  clear y3 f3
  have y4 := blk_cell (i := 4) hb4 rfl
  have f4 := blk_free (i := 4) hb4
  refine wpSeqP_one (by kernel_rfl) (by kernel_rfl) (fun K hK => ?_)
  go_simp
  have hb5 := blk_set (i := 4) hb4 (.slice ao xn cap)
  have s5 := s4.setCell (p := ⟨S, 4, none⟩) (.inl (by simp)) (.slice ao xn cap)
  have u35 : Upd [S] w3 ((w3.setCell ⟨S, 3, none⟩ (.int .u64 (slot : Int))).setCell ⟨S, 4, none⟩ (.slice ao xn cap)) := ((Upd.refl [S] w3).setCell (.inl (by simp)) _).setCell (.inl (by simp)) _
  refine hK _ _ (s5) ?_
  clear hK K
  try simp only [Act.put, List.setIfInBounds_toArray, List.set_cons_succ, List.set_cons_zero]
  unfold wpSeqP
  clear y4 f4
  have hS5 : StoAt E ((w3.setCell ⟨S, 3, none⟩ (.int .u64 (slot : Int))).setCell ⟨S, 4, none⟩ (.slice ao xn cap)) S L D g base ao xn cap bv d { s with base := slot, snap := bytes } := by
    have hD3 := blk_lt H3.out.dsk.hD
    exact H3.out.setS u35 hb5 (fun _ => L3.out.upd u35 hD3 (by simpa using n4.symm) (by simp)) rfl
  have hU5 := (U3.out.mono (by simp)).trans u35
  generalize (w3.setCell ⟨S, 3, none⟩ (.int .u64 (slot : Int))).setCell ⟨S, 4, none⟩ (.slice ao xn cap) = w5 at *
  clear s0 s3 s4 s5 d0 u35 hb4 hb5
  obtain ⟨l, i1, i2, i3, i4⟩ := hS5.vts.raw
  have hlok : ∀ p ∈ l, p.1 < 18446744073709551616 := fun p hp => by
    obtain ⟨v, hv⟩ := mfind_of_mem hp
    cases hf : mfind s.votes p.1 with
    | none => rw [i3 _ hf] at hv; cases hv
    | some u => exact hvo _ (mfind_mem hf)
  have Y5 := hide (show w5.cell? ⟨S, 5, none⟩ = some (.map (some g)) from blk_cell hS5.blk rfl)
  have Y3 := hide (show w5.cell? ⟨S, 3, none⟩ = some (.int .u64 (slot : Int)) from blk_cell hS5.blk rfl)
  have H5 := hide hS5; have U5 := hide hU5; have I2 := hide i2; have I3 := hide i3; have I4 := hide i4; have LOK := hide hlok
  have hSl5 := blk_lt hS5.blk
  have hgl5 := hS5.vts.safe.lt
  clear hS5 hU5 i2 i3 i4 hlok H2 B2 U2 X1 X4 BS H3 L3 U3
  have y5 := Y5.out
  go_wp2_with (first
    | (at_range; refine wpList_range_map (M := vtK) _ rfl _ rfl rfl i1 ?_; intro w6 hrg6 hu6 hs6)
    | go_in)
  have HRG6 := hide hrg6; have HU6 := hide hu6
  clear y5 hrg6 hu6 i1
  go_loopw [4] (fun _ wr => ∃ (left : Lit → Bool) (cnt : Nat) (q : List (Nat × VR)), vtK.rng wr g w5.heap.size q left cnt ∧ Rise slotK q ∧ (∀ j v, mfind q j = some v → mfind l j = some v) ∧ (∀ j, slot < j → mfind q j = mfind l j) ∧ (∀ j v, j ≤ slot → mfind q j = some v → left (slotK.lit j) = true) ∧ Upd [g] w5 wr ∧ w5.heap.size < wr.heap.size) (fun _ wr => wr.rangeLeft g w5.heap.size)
  case atStart =>
    refine ⟨_, _, l, HRG6.out, I2.out, fun j v h => h, fun _ _ => rfl, fun j v _ hv => ?_, HU6.out.mono (by simp), by omega⟩
    show Maps.has (toD slotK vtK.dat l) (slotK.lit j) = true
    rw [toD_has, hv]
    rfl
  case round =>
    obtain ⟨left, cnt, q, hrg, hq1, hq2, hq3, hq4, hu, hz⟩ := hrel
    have hok : ∀ p ∈ q, vtK.okk p.1 := fun p hp => by
      obtain ⟨v, hv⟩ := mfind_of_mem hp
      exact LOK.out (p.1, v) (mfind_mem (hq2 _ v hv))
    have Q1 := hide hq1; have Q2 := hide hq2; have Q3 := hide hq3; have Q4 := hide hq4; have U := hide hu; have OK := hide hok
    clear hq1 hq2 hq3 hq4 hu hok HRG6 HU6
    go_wp2_with (first
      | (at_next; refine wpList_next_map (M := vtK) _ rfl _ rfl rfl hrg OK.out ?_ ?_)
      | go_in)
    · intro hc0 hl0
      go_wp2
      go_end0
      have hD5 := blk_lt H5.out.dsk.hD
      refine ⟨rfl, ⟨ao, xn, cap, H5.out.setV U.out (votes_cut (b := slot) H5.out.vts U.out hD5 (by simp) I3.out I4.out (MapKind.rng_is hrg) Q1.out fun j => ?_) rfl rfl rfl⟩, (U5.out.mono (by simp)).trans (U.out.mono (by simp))⟩
      split
      · rename_i hj
        cases hf : mfind q j with
        | none => rfl
        | some v =>
          have := Q4.out j v hj hf
          rw [hl0] at this
          cases this
      · rename_i hj
        exact Q3.out j (by omega)
    · intro j v w1 cnt1 hlk hv hrg1 hlt hu1 hs1 hen
      have hen' : (Instr.entry (.pointer (some ⟨w5.heap.size, 0, none⟩))).run Tryz.prog w1 = .ok (.tuple #[.int .u64 (j : Int), vrV v]) w1 := hen
      have hSr : S ∉ [w5.heap.size] := by simp; omega
      have hSg : S ∉ [g] := by simpa using n2
      have y5 := Rec.cell_keep hu1 (Rec.cell_keep U.out Y5.out hSg) hSr
      have y3 := Rec.cell_keep hu1 (Rec.cell_keep U.out Y3.out hSg) hSr
      have hjk : vtK.okk j := OK.out (j, v) (mfind_mem hv)
      have hcnt := MapKind.rng_cnt hrg
      have U1 := hide (U.out.trans_new hu1 (fun k hk => .inr (by simp at hk; omega))); have RG1 := hide hrg1; have LK := hide hlk
      have hz1 := hu1.size
      clear hrg1 hu1 hen hSr hSg hlk
      by_cases hjs : j ≤ slot
      · have t1 : decide ((j : Int) ≤ (slot : Int)) = true := by simpa using hjs
        have t2 : decide (j ≤ slot) = true := by simpa using hjs
        go_wp2_with (first
          | (at_delete; refine wpList_delete_map (M := vtK) rfl _ _ rfl rfl RG1.out rfl hjk ?_; intro w2 cnt2 hrg2 hle2 hu2; simp only [Act.put])
          | go_in)
        have hcnt2 := MapKind.rng_cnt hrg2
        have RG2 := hide hrg2; have U2 := hide (U1.out.trans hu2)
        have hz2 := hu2.size
        clear hrg2 hu2 hen' y5 y3
        go_wp2_with fail
        go_roundw
        case rel =>
          refine ⟨_, cnt2, mdel q j, RG2.out, rise_del Q1.out, fun i u hi => ?_, fun i hi => ?_, fun i u hi hu => ?_, U2.out, by omega⟩
          · rw [mfind_del] at hi
            split at hi
            · cases hi
            · exact Q2.out _ _ hi
          · rw [mfind_del, if_neg (by omega)]
            exact Q3.out i hi
          · rw [mfind_del] at hu
            split at hu
            · cases hu
            · rename_i hij
              have h1 := Q4.out i u hi hu
              have h2 : (slotK.lit i).sameKey (vtK.K.lit j) = false := by
                have := Kys.same slotK i j
                rw [show vtK.K.lit j = slotK.lit j from rfl, this]
                simpa using hij
              simp [h1, h2]
        case measure => rw [hcnt, hcnt2]; omega
      · have t1 : decide ((j : Int) ≤ (slot : Int)) = false := by simp; omega
        have t2 : decide (j ≤ slot) = false := by simpa using hjs
        have hcnt1 := MapKind.rng_cnt RG1.out
        go_wp2_with fail
        go_roundw
        case rel =>
          refine ⟨_, cnt1, q, RG1.out, Q1.out, Q2.out, Q3.out, fun i u hi hu => ?_, U1.out, by omega⟩
          have h1 := Q4.out i u hi hu
          have h2 : (slotK.lit i).sameKey (vtK.K.lit j) = false := by
            have := Kys.same slotK i j
            rw [show vtK.K.lit j = slotK.lit j from rfl, this]
            simp
            omega
          simp [h1, h2]
        case measure => rw [hcnt, hcnt1]; exact hlt
end
end St
end Go.Proofs.YtekbhfpdakhhkaaGreatDoor
