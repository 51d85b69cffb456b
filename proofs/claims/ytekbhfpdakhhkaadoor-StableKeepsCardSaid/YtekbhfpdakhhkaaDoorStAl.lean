/- The law's alike: have two stores the same? -/
import Derived.Test.YtekbhfpdakhhkaaDoorStLg
import Derived.Test.YtekbhfpdakhhkaaDoorGenAll
import Derived.BigQuiet
namespace Go.Proofs.YtekbhfpdakhhkaaDoor.St
set_option linter.unusedSimpArgs false
set_option linter.unusedVariables false
set_option linter.unnecessarySimpa false
open Go.RowKit Go.Lib Go.Proofs.YtekbhfpdakhhkaaDoor.Crc Go.Proofs.YtekbhfpdakhhkaaDoor.Var Go.Proofs.YtekbhfpdakhhkaaDoor.DiskW Go.Proofs.YtekbhfpdakhhkaaDoor.Rec Go.Proofs.YtekbhfpdakhhkaaDoor.Fr

def AlikeSays (w : World) (s t : Sto) (e : Ending) (w' : World) : Prop := ∃ r : Bool, e = .returned (.bool r) ∧ (r = true ↔ s = t) ∧ Upd [] w w'
noncomputable def alikeOps2 : Array Oper := findOps 2 ((Tryd.f16.body).getD .skip)
theorem strs_ne {a b : List UInt8} (h : a ≠ b) : ((strOf a).toList == (strOf b).toList) = false ∧ ((strOf a).toList != (strOf b).toList) = true := by
  have : ((strOf a).toList == (strOf b).toList) = false := by rw [strOf_eq]; simpa using h
  exact ⟨this, by simp [bne, this]⟩
theorem strs_same (a : List UInt8) : ((strOf a).toList == (strOf a).toList) = true ∧ ((strOf a).toList != (strOf a).toList) = false := by
  have : ((strOf a).toList == (strOf a).toList) = true := by rw [strOf_eq]; simp
  exact ⟨this, by simp [bne, this]⟩
section
variable {E E' : List Nat} {S L D g base : Nat} {so : Option Addr} {sn sc : Nat} {bv : Value} {d : DS} {s : Sto} {S' L' D' g' base' : Nat} {so' : Option Addr} {sn' sc' : Nat} {bv' : Value} {d' : DS} {t : Sto} {i j : Nat}
set_option maxRecDepth 100000 in
set_option maxHeartbeats 4000000 in
theorem alike_any (w : World) (h : StoAt E w S L D g base so sn sc bv d s) (k : StoAt E' w S' L' D' g' base' so' sn' sc' bv' d' t) (hs : StoOk s i) (ht : StoOk t j) (hi : i < 1000) (hj : j < 1000) :
    Calls Tryd.prog 16 #[.pointer (some ⟨S, 0, none⟩), .pointer (some ⟨S', 0, none⟩)] w (AlikeSays w s t) := by
  have H := hide h; have K := hide k; have HS := hide hs; have HT := hide ht
  have hsn : sn ≤ 1000000000 := by have := h.snp.len; have := hs.sn; omega
  have hsn' : sn' ≤ 1000000000 := by have := k.snp.len; have := ht.sn; omega
  have hvl : s.votes.length < 1000 := by have := hs.len; omega
  clear h k hs ht
  go_enter Tryd.func16, Tryd.ntmps16
  go_wp2_with fail
  refine (votes_any w H.out HS.out hi 0).mono ?_
  intro e w1 hvs
  obtain ⟨v1, xs, rfl, hv1, hu1⟩ := hvs.told
  have VT1 := hide hv1; have U1 := hide hu1
  clear hvs hv1 hu1
  go_wp2_with fail
  refine (votes_any w1 (K.out.upd_nil U1.out) HT.out hj 0).mono ?_
  intro e w2 hvs
  obtain ⟨v2, ys, rfl, hv2, hu2⟩ := hvs.told
  have hv1' := VT1.out.upd hu2 (by simp)
  have hxl := hv1'.len
  have hyl := hv2.len
  obtain ⟨xo, xc, rfl, hxc1, hxc2, hxg⟩ := hv1'.slice
  obtain ⟨yo, yc, rfl, hyc1, hyc2, hyg⟩ := hv2.slice
  have VX := hide hv1'; have VY := hide hv2; have U2 := hide (U1.out.trans hu2); have XG := hide hxg; have YG := hide hyg
  have A2 := hide (H.out.upd_nil U2.out); have B2 := hide (K.out.upd_nil U2.out)
  clear hvs hv1' hv2 hu2 hxg hyg VT1 U1 H K
  go_upto_region 2 with fail
  have d0 : Upd [] w2 (w2.drewN 1) := (Upd.refl [] w2).drewN 1
  have HXL := hide hxl; have HYL := hide hyl
  clear hxl hyl
  refine wp_region_seqS alikeOps2 (by kernel_rfl) [1, 3, 7, 9, 14, 17] [0, 2, 1, 3, 4, 5, 6, 8, 7, 9, 10, 11, 12, 13, 16, 14, 15, 17, 18, 19, 20, 21, 22, 23, 24, 25, 26, 27] (fun wx => Upd [] w2 wx) (by kernel_rfl) (by kernel_rfl) (fun _ _ d _ _ h => by cases d <;> exact h) d0 ?_
  simp only [pickO, List.filterMap_cons, List.filterMap_nil, List.getElem?_cons_succ, List.getElem?_cons_zero]
  by_cases hp : s.prom = t.prom
  · refine wpSeqS_take (by kernel_rfl) (by kernel_rfl) ?_
    apply Exists.intro
    refine ⟨fun wx hS => ?_, fun a' ha => ?_⟩
    · go_simp; rfl
    simp only [Act.put, List.setIfInBounds_toArray, List.set_cons_succ, List.set_cons_zero] at ha
    subst ha
    refine wpSeqS_take (by kernel_rfl) (by kernel_rfl) ?_
    apply Exists.intro
    refine ⟨fun wx hS => ?_, fun a' ha => ?_⟩
    · go_simp; rfl
    simp only [Act.put, List.setIfInBounds_toArray, List.set_cons_succ, List.set_cons_zero] at ha
    subst ha
    refine wpSeqS_one (by kernel_rfl) (by kernel_rfl) (fun K hK => ?_)
    go_simp
    refine (promise_any (w2.drewN 1) (A2.out.upd_nil d0)).mono ?_
    rintro e w3 ⟨rfl, hu3⟩
    have d3 := d0.trans hu3
    refine hK (fun wx => Upd [] w3 wx) _ _ (fun _ hx => (d3).trans hx) (Upd.refl [] _) ?_
    clear hK K
    try simp only [Act.put, List.setIfInBounds_toArray, List.set_cons_succ, List.set_cons_zero]
    refine wpSeqS_one (by kernel_rfl) (by kernel_rfl) (fun K hK => ?_)
    go_simp
    refine (promise_any w3 (B2.out.upd_nil d3)).mono ?_
    rintro e w4 ⟨rfl, hu4⟩
    have d4 := d3.trans hu4
    refine hK (fun wx => Upd [] w4 wx) _ _ (fun _ hx => (hu4).trans hx) (Upd.refl [] _) ?_
    clear hK K
    try simp only [Act.put, List.setIfInBounds_toArray, List.set_cons_succ, List.set_cons_zero]
    refine wpSeqS_take (by kernel_rfl) (by kernel_rfl) ?_
    apply Exists.intro
    refine ⟨fun wx hS => ?_, fun a' ha => ?_⟩
    · go_simp; rfl
    simp only [Act.put, List.setIfInBounds_toArray, List.set_cons_succ, List.set_cons_zero] at ha
    subst ha
    refine wpSeqS_take (by kernel_rfl) (by kernel_rfl) ?_
    apply Exists.intro
    refine ⟨fun wx hS => ?_, fun a' ha => ?_⟩
    · go_simp; rfl
    simp only [Act.put, List.setIfInBounds_toArray, List.set_cons_succ, List.set_cons_zero] at ha
    subst ha
    by_cases hb : s.base = t.base
    · have qb : ((s.base : Int) != (t.base : Int)) = false := by simp; omega
      refine wpSeqS_take (by kernel_rfl) (by kernel_rfl) ?_
      apply Exists.intro
      refine ⟨fun wx hS => ?_, fun a' ha => ?_⟩
      · go_simp; rfl
      simp only [Act.put, List.setIfInBounds_toArray, List.set_cons_succ, List.set_cons_zero] at ha
      subst ha
      refine wpSeqS_take (by kernel_rfl) (by kernel_rfl) ?_
      apply Exists.intro
      refine ⟨fun wx hS => ?_, fun a' ha => ?_⟩
      · go_simp; rfl
      simp only [Act.put, List.setIfInBounds_toArray, List.set_cons_succ, List.set_cons_zero] at ha
      subst ha
      refine wpSeqS_one (by kernel_rfl) (by kernel_rfl) (fun K hK => ?_)
      go_simp
      refine (base_any w4 (A2.out.upd_nil d4)).mono ?_
      rintro e w5 ⟨rfl, hu5⟩
      have d5 := d4.trans hu5
      refine hK (fun wx => Upd [] w5 wx) _ _ (fun _ hx => (hu5).trans hx) (Upd.refl [] _) ?_
      clear hK K
      try simp only [Act.put, List.setIfInBounds_toArray, List.set_cons_succ, List.set_cons_zero]
      refine wpSeqS_one (by kernel_rfl) (by kernel_rfl) (fun K hK => ?_)
      go_simp
      refine (base_any w5 (B2.out.upd_nil d5)).mono ?_
      rintro e w6 ⟨rfl, hu6⟩
      have d6 := d5.trans hu6
      refine hK (fun wx => Upd [] w6 wx) _ _ (fun _ hx => (hu6).trans hx) (Upd.refl [] _) ?_
      clear hK K
      try simp only [Act.put, List.setIfInBounds_toArray, List.set_cons_succ, List.set_cons_zero]
      refine wpSeqS_take (by kernel_rfl) (by kernel_rfl) ?_
      apply Exists.intro
      refine ⟨fun wx hS => ?_, fun a' ha => ?_⟩
      · go_simp; rfl
      simp only [Act.put, List.setIfInBounds_toArray, List.set_cons_succ, List.set_cons_zero] at ha
      subst ha
      refine wpSeqS_take (by kernel_rfl) (by kernel_rfl) ?_
      apply Exists.intro
      refine ⟨fun wx hS => ?_, fun a' ha => ?_⟩
      · go_simp; rfl
      simp only [Act.put, List.setIfInBounds_toArray, List.set_cons_succ, List.set_cons_zero] at ha
      subst ha
      refine wpSeqS_take (by kernel_rfl) (by kernel_rfl) ?_
      apply Exists.intro
      refine ⟨fun wx hS => ?_, fun a' ha => ?_⟩
      · go_simp; rfl
      simp only [Act.put, List.setIfInBounds_toArray, List.set_cons_succ, List.set_cons_zero] at ha
      subst ha
      by_cases hn : s.snap = t.snap
      · have qs := strs_same t.snap
        rw [← hn] at qs
        obtain ⟨qs1, qs2⟩ := qs
        refine wpSeqS_take (by kernel_rfl) (by kernel_rfl) ?_
        apply Exists.intro
        refine ⟨fun wx hS => ?_, fun a' ha => ?_⟩
        · go_simp; rfl
        simp only [Act.put, List.setIfInBounds_toArray, List.set_cons_succ, List.set_cons_zero] at ha
        subst ha
        refine wpSeqS_take (by kernel_rfl) (by kernel_rfl) ?_
        apply Exists.intro
        refine ⟨fun wx hS => ?_, fun a' ha => ?_⟩
        · go_simp; rfl
        simp only [Act.put, List.setIfInBounds_toArray, List.set_cons_succ, List.set_cons_zero] at ha
        subst ha
        refine wpSeqS_one (by kernel_rfl) (by kernel_rfl) (fun K hK => ?_)
        go_simp
        refine (snap_any w6 (A2.out.upd_nil d6) (by omega)).mono ?_
        rintro e w7 ⟨⟨ao, ac, rfl, hao⟩, hu7⟩
        have d7 := d6.trans hu7
        refine hK (fun wx => Upd [] w7 wx) _ _ (fun _ hx => (hu7).trans hx) (Upd.refl [] _) ?_
        clear hK K
        try simp only [Act.put, List.setIfInBounds_toArray, List.set_cons_succ, List.set_cons_zero]
        refine wpSeqS_take (by kernel_rfl) (by kernel_rfl) ?_
        apply Exists.intro
        refine ⟨fun wx hS => ?_, fun a' ha => ?_⟩
        · have q := run_str (src_upd (src_own hao (by simp [u8v, Value.oneCell'])) hS (by simp)); go_simp; rfl
        simp only [Act.put, List.setIfInBounds_toArray, List.set_cons_succ, List.set_cons_zero] at ha
        subst ha
        refine wpSeqS_one (by kernel_rfl) (by kernel_rfl) (fun K hK => ?_)
        go_simp
        refine (snap_any w7 (B2.out.upd_nil d7) (by omega)).mono ?_
        rintro e w8 ⟨⟨bo, bc, rfl, hbo⟩, hu8⟩
        have d8 := d7.trans hu8
        refine hK (fun wx => Upd [] w8 wx) _ _ (fun _ hx => (hu8).trans hx) (Upd.refl [] _) ?_
        clear hK K
        try simp only [Act.put, List.setIfInBounds_toArray, List.set_cons_succ, List.set_cons_zero]
        refine wpSeqS_take (by kernel_rfl) (by kernel_rfl) ?_
        apply Exists.intro
        refine ⟨fun wx hS => ?_, fun a' ha => ?_⟩
        · have q := run_str (src_upd (src_own hbo (by simp [u8v, Value.oneCell'])) hS (by simp)); go_simp; rfl
        simp only [Act.put, List.setIfInBounds_toArray, List.set_cons_succ, List.set_cons_zero] at ha
        subst ha
        refine wpSeqS_take (by kernel_rfl) (by kernel_rfl) ?_
        apply Exists.intro
        refine ⟨fun wx hS => ?_, fun a' ha => ?_⟩
        · go_simp; rfl
        simp only [Act.put, List.setIfInBounds_toArray, List.set_cons_succ, List.set_cons_zero] at ha
        subst ha
        refine wpSeqS_take (by kernel_rfl) (by kernel_rfl) ?_
        apply Exists.intro
        refine ⟨fun wx hS => ?_, fun a' ha => ?_⟩
        · go_simp; rfl
        simp only [Act.put, List.setIfInBounds_toArray, List.set_cons_succ, List.set_cons_zero] at ha
        subst ha
        refine wpSeqS_take (by kernel_rfl) (by kernel_rfl) ?_
        apply Exists.intro
        refine ⟨fun wx hS => ?_, fun a' ha => ?_⟩
        · go_simp; rfl
        simp only [Act.put, List.setIfInBounds_toArray, List.set_cons_succ, List.set_cons_zero] at ha
        subst ha
        by_cases hl : s.votes.length = t.votes.length
        · have ql : ((s.votes.length : Int) != (t.votes.length : Int)) = false := by simp; omega
          refine wpSeqS_take (by kernel_rfl) (by kernel_rfl) ?_
          apply Exists.intro
          refine ⟨fun wx hS => ?_, fun a' ha => ?_⟩
          · go_simp; rfl
          simp only [Act.put, List.setIfInBounds_toArray, List.set_cons_succ, List.set_cons_zero] at ha
          subst ha
          refine wpSeqS_take (by kernel_rfl) (by kernel_rfl) ?_
          apply Exists.intro
          refine ⟨fun wx hS => ?_, fun a' ha => ?_⟩
          · go_simp; rfl
          simp only [Act.put, List.setIfInBounds_toArray, List.set_cons_succ, List.set_cons_zero] at ha
          subst ha
          refine wpSeqS_take (by kernel_rfl) (by kernel_rfl) ?_
          apply Exists.intro
          refine ⟨fun wx hS => ?_, fun a' ha => ?_⟩
          · go_simp; rfl
          simp only [Act.put, List.setIfInBounds_toArray, List.set_cons_succ, List.set_cons_zero] at ha
          subst ha
          refine wpSeqS_take (by kernel_rfl) (by kernel_rfl) ?_
          apply Exists.intro
          refine ⟨fun wx hS => ?_, fun a' ha => ?_⟩
          · go_simp; rfl
          simp only [Act.put, List.setIfInBounds_toArray, List.set_cons_succ, List.set_cons_zero] at ha
          subst ha
          refine wpSeqS_take (by kernel_rfl) (by kernel_rfl) ?_
          apply Exists.intro
          refine ⟨fun wx hS => ?_, fun a' ha => ?_⟩
          · go_simp; rfl
          simp only [Act.put, List.setIfInBounds_toArray, List.set_cons_succ, List.set_cons_zero] at ha
          subst ha
          refine wpSeqS_take (by kernel_rfl) (by kernel_rfl) ?_
          apply Exists.intro
          refine ⟨fun wx hS => ?_, fun a' ha => ?_⟩
          · go_simp; rfl
          simp only [Act.put, List.setIfInBounds_toArray, List.set_cons_succ, List.set_cons_zero] at ha
          subst ha
          unfold wpSeqS
          have U8 := hide (U2.out.trans d8)
          have DD := hide d8
          have SAME := hide (And.intro hp (And.intro hb hn))
          have HL := hide hl
          clear hp hb hn qb qs1 qs2 hl ql hu3 hu4 hu5 hu6 hu7 hu8 hao hbo d0 d3 d4 d5 d6 d7 d8
          go_wp2_with fail
          go_loopw [7] (fun si wr => ∃ k : Nat, k ≤ s.votes.length ∧ si = .int .i64 k ∧ Upd [] w8 wr ∧ ∀ j, j < k → s.votes[j]? = t.votes[j]?) (fun si _ => s.votes.length - (intOf si).toNat)
          case atStart => exact ⟨0, by omega, rfl, Upd.refl _ _, fun j hj => by omega⟩
          case round =>
            obtain ⟨k, hk, rfl, hur, hall⟩ := hrel
            have UR := hide (DD.out.trans hur); have UW := hide (U8.out.trans hur); have ALL := hide hall
            have U8R := hide hur
            clear hur hall
            by_cases hlt : k < s.votes.length
            · have e1 := HXL.out; have e2 := HYL.out; have e3 := HL.out
              obtain ⟨x, hx⟩ : ∃ x, xs[k]? = some x := ⟨_, List.getElem?_eq_getElem (by omega)⟩
              obtain ⟨y, hy⟩ : ∃ y, ys[k]? = some y := ⟨_, List.getElem?_eq_getElem (by omega)⟩
              obtain ⟨u, a1, a2, a3, a4, a5, a6⟩ := VX.out.at hx
              obtain ⟨v, z1, z2, z3, z4, z5, z6⟩ := VY.out.at hy
              obtain ⟨b, rfl, -, -, x0, x1, x2, x3⟩ := XG.out k x hx
              obtain ⟨c, rfl, -, -, y0, y1, y2, y3⟩ := YG.out k y hy
              obtain ⟨xa, hxa⟩ : ∃ xa, adOf x.xo = xa := ⟨_, rfl⟩
              obtain ⟨ya, hya⟩ : ∃ ya, adOf y.xo = ya := ⟨_, rfl⟩
              simp only [vsl, hxa, hya] at a6 z6 x3 y3
              have hcv1 := fun nq => run_str (src_upd_nil (src_ownB a6) (UR.out.drewN nq))
              have hcv2 := fun nq => run_str (src_upd_nil (src_ownB z6) (UR.out.drewN nq))
              replace x0 := Rec.cell_keep UR.out x0 (by simp)
              replace x1 := Rec.cell_keep UR.out x1 (by simp)
              replace x2 := Rec.cell_keep UR.out x2 (by simp)
              replace x3 := Rec.cell_keep UR.out x3 (by simp)
              replace y0 := Rec.cell_keep UR.out y0 (by simp)
              replace y1 := Rec.cell_keep UR.out y1 (by simp)
              replace y2 := Rec.cell_keep UR.out y2 (by simp)
              replace y3 := Rec.cell_keep UR.out y3 (by simp)
              have d5 : decide ((k : Int) < (s.votes.length : Int)) = true := by simp; omega
              have d5' : decide (k < s.votes.length) = true := by simpa using hlt
              have hlt2 : k < t.votes.length := by omega
              have HLT := hide hlt
              have d6 : decide ((k : Int) < (t.votes.length : Int)) = true := by simp; omega
              have d6' : decide (k < t.votes.length) = true := by simp; omega
              have NEQ := hide (show (x.slot, u) ≠ (y.slot, v) → s = t → False from fun h1 e => by
                rw [e, z1] at a1
                exact h1 (Option.some.inj a1).symm)
              have A1 := hide a1; have Z1 := hide z1
              clear a1 a2 a5 a6 z1 z2 z5 z6 hxa hya hx hy e1 e2 e3
              by_cases p1 : x.slot = y.slot
              · have q1 : ((x.slot : Int) != (y.slot : Int)) = false := by simp; omega
                by_cases p2 : x.n = y.n
                · by_cases p3 : x.r = y.r
                  · by_cases p4 : u.batch = v.batch
                    · obtain ⟨qs1, qs2⟩ := strs_same v.batch
                      rw [p4] at hcv1
                      have heq : (x.slot, u) = (y.slot, v) := by
                        have hub : u.b = v.b := by
                          cases hu : u.b
                          cases hv : v.b
                          rw [hu] at a3 a4
                          rw [hv] at z3 z4
                          simp only at a3 a4 z3 z4
                          rw [← a3, ← a4, ← z3, ← z4, p2, p3]
                        have huv : u = v := by
                          cases u
                          cases v
                          simp only at hub p4
                          rw [hub, p4]
                        rw [p1, huv]
                      have p2' : (x.n : Int) = y.n := by omega
                      have HEQ := hide heq
                      clear p1 p2 a3 a4 z3 z4 p4 heq
                      go_wp2_with fail
                      go_quiet (fail)
                      go_wp2_with fail
                      go_roundw
                      case rel => exact ⟨k + 1, by have := HLT.out; omega, by go_num, U8R.out.drewN _, fun j hj => by
                        rcases Nat.lt_or_ge j k with h | h
                        · exact ALL.out j h
                        · rw [show j = k by omega, A1.out, Z1.out, HEQ.out]⟩
                      case measure => have := HLT.out; simp [intOf]; omega
                    · obtain ⟨qs1, qs2⟩ := strs_ne p4
                      have NE := hide (NEQ.out fun e => p4 (by rw [(Prod.mk.inj e).2]))
                      have p2' : (x.n : Int) = y.n := by omega
                      clear p1 p2 p4 a3 a4 z3 z4
                      go_wp2_with fail
                      go_quiet (fail)
                      go_wp2_with fail
                      go_ret
                      exact ⟨false, rfl, ⟨(fun e => by cases e), fun e => (NE.out e).elim⟩, UW.out.drewN _⟩
                  · have NE := hide (NEQ.out fun e => p3 (by rw [a4, z4, (Prod.mk.inj e).2]))
                    have p2' : (x.n : Int) = y.n := by omega
                    clear p1 p2 a3 a4 z3 z4
                    go_wp2_with fail
                    go_quiet (fail)
                    go_wp2_with fail
                    go_ret
                    exact ⟨false, rfl, ⟨(fun e => by cases e), fun e => (NE.out e).elim⟩, UW.out.drewN _⟩
                · have NE := hide (NEQ.out fun e => p2 (by rw [a3, z3, (Prod.mk.inj e).2]))
                  have p2' : ¬ ((x.n : Int) = y.n) := by omega
                  clear p1 p2 a3 a4 z3 z4
                  go_wp2_with fail
                  go_quiet (fail)
                  go_wp2_with fail
                  go_ret
                  exact ⟨false, rfl, ⟨(fun e => by cases e), fun e => (NE.out e).elim⟩, UW.out.drewN _⟩
              · have q1 : ((x.slot : Int) != (y.slot : Int)) = true := by simp; omega
                have NE := hide (NEQ.out fun e => p1 (Prod.mk.inj e).1)
                clear p1 a3 a4 z3 z4
                go_wp2_with fail
                go_quiet (fail)
                go_wp2_with fail
                go_ret
                exact ⟨false, rfl, ⟨(fun e => by cases e), fun e => (NE.out e).elim⟩, UW.out.drewN _⟩
            · have d5 : decide ((k : Int) < (s.votes.length : Int)) = false := by simp; omega
              have d5' : decide (k < s.votes.length) = false := by simpa using hlt
              have hfin : s = t := by
                have e3 := HL.out
                obtain ⟨f1, f2, f3⟩ := SAME.out
                have f4 : s.votes = t.votes := List.ext_getElem? fun j => by
                  rcases Nat.lt_or_ge j k with h | h
                  · exact ALL.out j h
                  · rw [List.getElem?_eq_none (by omega), List.getElem?_eq_none (by omega)]
                cases s; cases t
                simp only at f1 f2 f3 f4
                rw [f1, f2, f3, f4]
              have FIN := hide hfin
              clear hlt hfin
              go_wp2_with fail
              go_ret
              exact ⟨true, rfl, ⟨fun _ => FIN.out, fun _ => rfl⟩, UW.out⟩
        · have ql : ((s.votes.length : Int) != (t.votes.length : Int)) = true := by simp; omega
          have NE := hide (show s = t → False from fun e => hl (by rw [e]))
          refine wpSeqS_take (by kernel_rfl) (by kernel_rfl) ?_
          apply Exists.intro
          refine ⟨fun wx hS => ?_, fun a' ha => ?_⟩
          · go_simp; rfl
          simp only [Act.put, List.setIfInBounds_toArray, List.set_cons_succ, List.set_cons_zero] at ha
          subst ha
          refine wpSeqS_take (by kernel_rfl) (by kernel_rfl) ?_
          apply Exists.intro
          refine ⟨fun wx hS => ?_, fun a' ha => ?_⟩
          · go_simp; rfl
          simp only [Act.put, List.setIfInBounds_toArray, List.set_cons_succ, List.set_cons_zero] at ha
          subst ha
          refine wpSeqS_take (by kernel_rfl) (by kernel_rfl) ?_
          apply Exists.intro
          refine ⟨fun wx hS => ?_, fun a' ha => ?_⟩
          · go_simp; rfl
          simp only [Act.put, List.setIfInBounds_toArray, List.set_cons_succ, List.set_cons_zero] at ha
          subst ha
          refine wpSeqS_take (by kernel_rfl) (by kernel_rfl) ?_
          apply Exists.intro
          refine ⟨fun wx hS => ?_, fun a' ha => ?_⟩
          · go_simp; rfl
          simp only [Act.put, List.setIfInBounds_toArray, List.set_cons_succ, List.set_cons_zero] at ha
          subst ha
          refine wpSeqS_take (by kernel_rfl) (by kernel_rfl) ?_
          apply Exists.intro
          refine ⟨fun wx hS => ?_, fun a' ha => ?_⟩
          · go_simp; rfl
          simp only [Act.put, List.setIfInBounds_toArray, List.set_cons_succ, List.set_cons_zero] at ha
          subst ha
          refine wpSeqS_take (by kernel_rfl) (by kernel_rfl) ?_
          apply Exists.intro
          refine ⟨fun wx hS => ?_, fun a' ha => ?_⟩
          · go_simp; rfl
          simp only [Act.put, List.setIfInBounds_toArray, List.set_cons_succ, List.set_cons_zero] at ha
          subst ha
          have DF := hide (U2.out.trans d8)
          clear hp hb hn qb qs1 qs2 hl ql
          unfold wpSeqS
          go_wp2_with fail
          go_ret
          exact ⟨false, rfl, ⟨(fun e => by cases e), fun e => (NE.out e).elim⟩, DF.out⟩
      · obtain ⟨qs1, qs2⟩ := strs_ne hn
        have NE := hide (show s = t → False from fun e => hn (by rw [e]))
        refine wpSeqS_take (by kernel_rfl) (by kernel_rfl) ?_
        apply Exists.intro
        refine ⟨fun wx hS => ?_, fun a' ha => ?_⟩
        · go_simp; rfl
        simp only [Act.put, List.setIfInBounds_toArray, List.set_cons_succ, List.set_cons_zero] at ha
        subst ha
        refine wpSeqS_take (by kernel_rfl) (by kernel_rfl) ?_
        apply Exists.intro
        refine ⟨fun wx hS => ?_, fun a' ha => ?_⟩
        · go_simp; rfl
        simp only [Act.put, List.setIfInBounds_toArray, List.set_cons_succ, List.set_cons_zero] at ha
        subst ha
        refine wpSeqS_one (by kernel_rfl) (by kernel_rfl) (fun K hK => ?_)
        go_simp
        refine (snap_any w6 (A2.out.upd_nil d6) (by omega)).mono ?_
        rintro e w7 ⟨⟨ao, ac, rfl, hao⟩, hu7⟩
        have d7 := d6.trans hu7
        refine hK (fun wx => Upd [] w7 wx) _ _ (fun _ hx => (hu7).trans hx) (Upd.refl [] _) ?_
        clear hK K
        try simp only [Act.put, List.setIfInBounds_toArray, List.set_cons_succ, List.set_cons_zero]
        refine wpSeqS_take (by kernel_rfl) (by kernel_rfl) ?_
        apply Exists.intro
        refine ⟨fun wx hS => ?_, fun a' ha => ?_⟩
        · have q := run_str (src_upd (src_own hao (by simp [u8v, Value.oneCell'])) hS (by simp)); go_simp; rfl
        simp only [Act.put, List.setIfInBounds_toArray, List.set_cons_succ, List.set_cons_zero] at ha
        subst ha
        refine wpSeqS_one (by kernel_rfl) (by kernel_rfl) (fun K hK => ?_)
        go_simp
        refine (snap_any w7 (B2.out.upd_nil d7) (by omega)).mono ?_
        rintro e w8 ⟨⟨bo, bc, rfl, hbo⟩, hu8⟩
        have d8 := d7.trans hu8
        refine hK (fun wx => Upd [] w8 wx) _ _ (fun _ hx => (hu8).trans hx) (Upd.refl [] _) ?_
        clear hK K
        try simp only [Act.put, List.setIfInBounds_toArray, List.set_cons_succ, List.set_cons_zero]
        refine wpSeqS_take (by kernel_rfl) (by kernel_rfl) ?_
        apply Exists.intro
        refine ⟨fun wx hS => ?_, fun a' ha => ?_⟩
        · have q := run_str (src_upd (src_own hbo (by simp [u8v, Value.oneCell'])) hS (by simp)); go_simp; rfl
        simp only [Act.put, List.setIfInBounds_toArray, List.set_cons_succ, List.set_cons_zero] at ha
        subst ha
        refine wpSeqS_take (by kernel_rfl) (by kernel_rfl) ?_
        apply Exists.intro
        refine ⟨fun wx hS => ?_, fun a' ha => ?_⟩
        · go_simp; rfl
        simp only [Act.put, List.setIfInBounds_toArray, List.set_cons_succ, List.set_cons_zero] at ha
        subst ha
        refine wpSeqS_take (by kernel_rfl) (by kernel_rfl) ?_
        apply Exists.intro
        refine ⟨fun wx hS => ?_, fun a' ha => ?_⟩
        · go_simp; rfl
        simp only [Act.put, List.setIfInBounds_toArray, List.set_cons_succ, List.set_cons_zero] at ha
        subst ha
        refine wpSeqS_take (by kernel_rfl) (by kernel_rfl) ?_
        apply Exists.intro
        refine ⟨fun wx hS => ?_, fun a' ha => ?_⟩
        · go_simp; rfl
        simp only [Act.put, List.setIfInBounds_toArray, List.set_cons_succ, List.set_cons_zero] at ha
        subst ha
        refine wpSeqS_skip (by kernel_rfl) (fun a' ha => ?_)
        simp only [Act.put, List.setIfInBounds_toArray, List.set_cons_succ, List.set_cons_zero] at ha
        subst ha
        refine wpSeqS_skip (by kernel_rfl) (fun a' ha => ?_)
        simp only [Act.put, List.setIfInBounds_toArray, List.set_cons_succ, List.set_cons_zero] at ha
        subst ha
        refine wpSeqS_skip (by kernel_rfl) (fun a' ha => ?_)
        simp only [Act.put, List.setIfInBounds_toArray, List.set_cons_succ, List.set_cons_zero] at ha
        subst ha
        refine wpSeqS_skip (by kernel_rfl) (fun a' ha => ?_)
        simp only [Act.put, List.setIfInBounds_toArray, List.set_cons_succ, List.set_cons_zero] at ha
        subst ha
        refine wpSeqS_skip (by kernel_rfl) (fun a' ha => ?_)
        simp only [Act.put, List.setIfInBounds_toArray, List.set_cons_succ, List.set_cons_zero] at ha
        subst ha
        refine wpSeqS_take (by kernel_rfl) (by kernel_rfl) ?_
        apply Exists.intro
        refine ⟨fun wx hS => ?_, fun a' ha => ?_⟩
        · go_simp; rfl
        simp only [Act.put, List.setIfInBounds_toArray, List.set_cons_succ, List.set_cons_zero] at ha
        subst ha
        have DF := hide (U2.out.trans d8)
        clear hp hb hn qb qs1 qs2
        unfold wpSeqS
        go_wp2_with fail
        go_ret
        exact ⟨false, rfl, ⟨(fun e => by cases e), fun e => (NE.out e).elim⟩, DF.out⟩
    · have qb : ((s.base : Int) != (t.base : Int)) = true := by simp; omega
      have NE := hide (show s = t → False from fun e => hb (by rw [e]))
      refine wpSeqS_take (by kernel_rfl) (by kernel_rfl) ?_
      apply Exists.intro
      refine ⟨fun wx hS => ?_, fun a' ha => ?_⟩
      · go_simp; rfl
      simp only [Act.put, List.setIfInBounds_toArray, List.set_cons_succ, List.set_cons_zero] at ha
      subst ha
      refine wpSeqS_take (by kernel_rfl) (by kernel_rfl) ?_
      apply Exists.intro
      refine ⟨fun wx hS => ?_, fun a' ha => ?_⟩
      · go_simp; rfl
      simp only [Act.put, List.setIfInBounds_toArray, List.set_cons_succ, List.set_cons_zero] at ha
      subst ha
      refine wpSeqS_one (by kernel_rfl) (by kernel_rfl) (fun K hK => ?_)
      go_simp
      refine (base_any w4 (A2.out.upd_nil d4)).mono ?_
      rintro e w5 ⟨rfl, hu5⟩
      have d5 := d4.trans hu5
      refine hK (fun wx => Upd [] w5 wx) _ _ (fun _ hx => (hu5).trans hx) (Upd.refl [] _) ?_
      clear hK K
      try simp only [Act.put, List.setIfInBounds_toArray, List.set_cons_succ, List.set_cons_zero]
      refine wpSeqS_one (by kernel_rfl) (by kernel_rfl) (fun K hK => ?_)
      go_simp
      refine (base_any w5 (B2.out.upd_nil d5)).mono ?_
      rintro e w6 ⟨rfl, hu6⟩
      have d6 := d5.trans hu6
      refine hK (fun wx => Upd [] w6 wx) _ _ (fun _ hx => (hu6).trans hx) (Upd.refl [] _) ?_
      clear hK K
      try simp only [Act.put, List.setIfInBounds_toArray, List.set_cons_succ, List.set_cons_zero]
      refine wpSeqS_take (by kernel_rfl) (by kernel_rfl) ?_
      apply Exists.intro
      refine ⟨fun wx hS => ?_, fun a' ha => ?_⟩
      · go_simp; rfl
      simp only [Act.put, List.setIfInBounds_toArray, List.set_cons_succ, List.set_cons_zero] at ha
      subst ha
      refine wpSeqS_take (by kernel_rfl) (by kernel_rfl) ?_
      apply Exists.intro
      refine ⟨fun wx hS => ?_, fun a' ha => ?_⟩
      · go_simp; rfl
      simp only [Act.put, List.setIfInBounds_toArray, List.set_cons_succ, List.set_cons_zero] at ha
      subst ha
      refine wpSeqS_take (by kernel_rfl) (by kernel_rfl) ?_
      apply Exists.intro
      refine ⟨fun wx hS => ?_, fun a' ha => ?_⟩
      · go_simp; rfl
      simp only [Act.put, List.setIfInBounds_toArray, List.set_cons_succ, List.set_cons_zero] at ha
      subst ha
      refine wpSeqS_skip (by kernel_rfl) (fun a' ha => ?_)
      simp only [Act.put, List.setIfInBounds_toArray, List.set_cons_succ, List.set_cons_zero] at ha
      subst ha
      refine wpSeqS_skip (by kernel_rfl) (fun a' ha => ?_)
      simp only [Act.put, List.setIfInBounds_toArray, List.set_cons_succ, List.set_cons_zero] at ha
      subst ha
      refine wpSeqS_skip (by kernel_rfl) (fun a' ha => ?_)
      simp only [Act.put, List.setIfInBounds_toArray, List.set_cons_succ, List.set_cons_zero] at ha
      subst ha
      refine wpSeqS_skip (by kernel_rfl) (fun a' ha => ?_)
      simp only [Act.put, List.setIfInBounds_toArray, List.set_cons_succ, List.set_cons_zero] at ha
      subst ha
      refine wpSeqS_skip (by kernel_rfl) (fun a' ha => ?_)
      simp only [Act.put, List.setIfInBounds_toArray, List.set_cons_succ, List.set_cons_zero] at ha
      subst ha
      refine wpSeqS_skip (by kernel_rfl) (fun a' ha => ?_)
      simp only [Act.put, List.setIfInBounds_toArray, List.set_cons_succ, List.set_cons_zero] at ha
      subst ha
      refine wpSeqS_skip (by kernel_rfl) (fun a' ha => ?_)
      simp only [Act.put, List.setIfInBounds_toArray, List.set_cons_succ, List.set_cons_zero] at ha
      subst ha
      refine wpSeqS_take (by kernel_rfl) (by kernel_rfl) ?_
      apply Exists.intro
      refine ⟨fun wx hS => ?_, fun a' ha => ?_⟩
      · go_simp; rfl
      simp only [Act.put, List.setIfInBounds_toArray, List.set_cons_succ, List.set_cons_zero] at ha
      subst ha
      refine wpSeqS_take (by kernel_rfl) (by kernel_rfl) ?_
      apply Exists.intro
      refine ⟨fun wx hS => ?_, fun a' ha => ?_⟩
      · go_simp; rfl
      simp only [Act.put, List.setIfInBounds_toArray, List.set_cons_succ, List.set_cons_zero] at ha
      subst ha
      refine wpSeqS_skip (by kernel_rfl) (fun a' ha => ?_)
      simp only [Act.put, List.setIfInBounds_toArray, List.set_cons_succ, List.set_cons_zero] at ha
      subst ha
      refine wpSeqS_skip (by kernel_rfl) (fun a' ha => ?_)
      simp only [Act.put, List.setIfInBounds_toArray, List.set_cons_succ, List.set_cons_zero] at ha
      subst ha
      refine wpSeqS_skip (by kernel_rfl) (fun a' ha => ?_)
      simp only [Act.put, List.setIfInBounds_toArray, List.set_cons_succ, List.set_cons_zero] at ha
      subst ha
      refine wpSeqS_skip (by kernel_rfl) (fun a' ha => ?_)
      simp only [Act.put, List.setIfInBounds_toArray, List.set_cons_succ, List.set_cons_zero] at ha
      subst ha
      refine wpSeqS_skip (by kernel_rfl) (fun a' ha => ?_)
      simp only [Act.put, List.setIfInBounds_toArray, List.set_cons_succ, List.set_cons_zero] at ha
      subst ha
      refine wpSeqS_take (by kernel_rfl) (by kernel_rfl) ?_
      apply Exists.intro
      refine ⟨fun wx hS => ?_, fun a' ha => ?_⟩
      · go_simp; rfl
      simp only [Act.put, List.setIfInBounds_toArray, List.set_cons_succ, List.set_cons_zero] at ha
      subst ha
      have DF := hide (U2.out.trans d6)
      clear hp hb qb
      unfold wpSeqS
      go_wp2_with fail
      go_ret
      exact ⟨false, rfl, ⟨(fun e => by cases e), fun e => (NE.out e).elim⟩, DF.out⟩
  · have NE := hide (show s = t → False from fun e => hp (by rw [e]))
    by_cases hpn : s.prom.n = t.prom.n
    · have hpr : ¬ s.prom.r = t.prom.r := fun e => hp (by
        cases h1 : s.prom; cases h2 : t.prom
        rw [h1, h2] at hpn e
        simp only at hpn e
        rw [hpn, e])
      clear hp
      refine wpSeqS_take (by kernel_rfl) (by kernel_rfl) ?_
      apply Exists.intro
      refine ⟨fun wx hS => ?_, fun a' ha => ?_⟩
      · go_simp; rfl
      simp only [Act.put, List.setIfInBounds_toArray, List.set_cons_succ, List.set_cons_zero] at ha
      subst ha
      refine wpSeqS_take (by kernel_rfl) (by kernel_rfl) ?_
      apply Exists.intro
      refine ⟨fun wx hS => ?_, fun a' ha => ?_⟩
      · go_simp; rfl
      simp only [Act.put, List.setIfInBounds_toArray, List.set_cons_succ, List.set_cons_zero] at ha
      subst ha
      refine wpSeqS_one (by kernel_rfl) (by kernel_rfl) (fun K hK => ?_)
      go_simp
      refine (promise_any (w2.drewN 1) (A2.out.upd_nil d0)).mono ?_
      rintro e w3 ⟨rfl, hu3⟩
      have d3 := d0.trans hu3
      refine hK (fun wx => Upd [] w3 wx) _ _ (fun _ hx => (d3).trans hx) (Upd.refl [] _) ?_
      clear hK K
      try simp only [Act.put, List.setIfInBounds_toArray, List.set_cons_succ, List.set_cons_zero]
      refine wpSeqS_one (by kernel_rfl) (by kernel_rfl) (fun K hK => ?_)
      go_simp
      refine (promise_any w3 (B2.out.upd_nil d3)).mono ?_
      rintro e w4 ⟨rfl, hu4⟩
      have d4 := d3.trans hu4
      refine hK (fun wx => Upd [] w4 wx) _ _ (fun _ hx => (hu4).trans hx) (Upd.refl [] _) ?_
      clear hK K
      try simp only [Act.put, List.setIfInBounds_toArray, List.set_cons_succ, List.set_cons_zero]
      refine wpSeqS_take (by kernel_rfl) (by kernel_rfl) ?_
      apply Exists.intro
      refine ⟨fun wx hS => ?_, fun a' ha => ?_⟩
      · go_simp; rfl
      simp only [Act.put, List.setIfInBounds_toArray, List.set_cons_succ, List.set_cons_zero] at ha
      subst ha
      refine wpSeqS_take (by kernel_rfl) (by kernel_rfl) ?_
      apply Exists.intro
      refine ⟨fun wx hS => ?_, fun a' ha => ?_⟩
      · go_simp; rfl
      simp only [Act.put, List.setIfInBounds_toArray, List.set_cons_succ, List.set_cons_zero] at ha
      subst ha
      refine wpSeqS_skip (by kernel_rfl) (fun a' ha => ?_)
      simp only [Act.put, List.setIfInBounds_toArray, List.set_cons_succ, List.set_cons_zero] at ha
      subst ha
      refine wpSeqS_skip (by kernel_rfl) (fun a' ha => ?_)
      simp only [Act.put, List.setIfInBounds_toArray, List.set_cons_succ, List.set_cons_zero] at ha
      subst ha
      refine wpSeqS_skip (by kernel_rfl) (fun a' ha => ?_)
      simp only [Act.put, List.setIfInBounds_toArray, List.set_cons_succ, List.set_cons_zero] at ha
      subst ha
      refine wpSeqS_skip (by kernel_rfl) (fun a' ha => ?_)
      simp only [Act.put, List.setIfInBounds_toArray, List.set_cons_succ, List.set_cons_zero] at ha
      subst ha
      refine wpSeqS_skip (by kernel_rfl) (fun a' ha => ?_)
      simp only [Act.put, List.setIfInBounds_toArray, List.set_cons_succ, List.set_cons_zero] at ha
      subst ha
      refine wpSeqS_take (by kernel_rfl) (by kernel_rfl) ?_
      apply Exists.intro
      refine ⟨fun wx hS => ?_, fun a' ha => ?_⟩
      · go_simp; rfl
      simp only [Act.put, List.setIfInBounds_toArray, List.set_cons_succ, List.set_cons_zero] at ha
      subst ha
      refine wpSeqS_take (by kernel_rfl) (by kernel_rfl) ?_
      apply Exists.intro
      refine ⟨fun wx hS => ?_, fun a' ha => ?_⟩
      · go_simp; rfl
      simp only [Act.put, List.setIfInBounds_toArray, List.set_cons_succ, List.set_cons_zero] at ha
      subst ha
      refine wpSeqS_skip (by kernel_rfl) (fun a' ha => ?_)
      simp only [Act.put, List.setIfInBounds_toArray, List.set_cons_succ, List.set_cons_zero] at ha
      subst ha
      refine wpSeqS_skip (by kernel_rfl) (fun a' ha => ?_)
      simp only [Act.put, List.setIfInBounds_toArray, List.set_cons_succ, List.set_cons_zero] at ha
      subst ha
      refine wpSeqS_skip (by kernel_rfl) (fun a' ha => ?_)
      simp only [Act.put, List.setIfInBounds_toArray, List.set_cons_succ, List.set_cons_zero] at ha
      subst ha
      refine wpSeqS_skip (by kernel_rfl) (fun a' ha => ?_)
      simp only [Act.put, List.setIfInBounds_toArray, List.set_cons_succ, List.set_cons_zero] at ha
      subst ha
      refine wpSeqS_skip (by kernel_rfl) (fun a' ha => ?_)
      simp only [Act.put, List.setIfInBounds_toArray, List.set_cons_succ, List.set_cons_zero] at ha
      subst ha
      refine wpSeqS_skip (by kernel_rfl) (fun a' ha => ?_)
      simp only [Act.put, List.setIfInBounds_toArray, List.set_cons_succ, List.set_cons_zero] at ha
      subst ha
      refine wpSeqS_skip (by kernel_rfl) (fun a' ha => ?_)
      simp only [Act.put, List.setIfInBounds_toArray, List.set_cons_succ, List.set_cons_zero] at ha
      subst ha
      refine wpSeqS_take (by kernel_rfl) (by kernel_rfl) ?_
      apply Exists.intro
      refine ⟨fun wx hS => ?_, fun a' ha => ?_⟩
      · go_simp; rfl
      simp only [Act.put, List.setIfInBounds_toArray, List.set_cons_succ, List.set_cons_zero] at ha
      subst ha
      refine wpSeqS_take (by kernel_rfl) (by kernel_rfl) ?_
      apply Exists.intro
      refine ⟨fun wx hS => ?_, fun a' ha => ?_⟩
      · go_simp; rfl
      simp only [Act.put, List.setIfInBounds_toArray, List.set_cons_succ, List.set_cons_zero] at ha
      subst ha
      refine wpSeqS_skip (by kernel_rfl) (fun a' ha => ?_)
      simp only [Act.put, List.setIfInBounds_toArray, List.set_cons_succ, List.set_cons_zero] at ha
      subst ha
      refine wpSeqS_skip (by kernel_rfl) (fun a' ha => ?_)
      simp only [Act.put, List.setIfInBounds_toArray, List.set_cons_succ, List.set_cons_zero] at ha
      subst ha
      refine wpSeqS_skip (by kernel_rfl) (fun a' ha => ?_)
      simp only [Act.put, List.setIfInBounds_toArray, List.set_cons_succ, List.set_cons_zero] at ha
      subst ha
      refine wpSeqS_skip (by kernel_rfl) (fun a' ha => ?_)
      simp only [Act.put, List.setIfInBounds_toArray, List.set_cons_succ, List.set_cons_zero] at ha
      subst ha
      refine wpSeqS_skip (by kernel_rfl) (fun a' ha => ?_)
      simp only [Act.put, List.setIfInBounds_toArray, List.set_cons_succ, List.set_cons_zero] at ha
      subst ha
      refine wpSeqS_take (by kernel_rfl) (by kernel_rfl) ?_
      apply Exists.intro
      refine ⟨fun wx hS => ?_, fun a' ha => ?_⟩
      · go_simp; rfl
      simp only [Act.put, List.setIfInBounds_toArray, List.set_cons_succ, List.set_cons_zero] at ha
      subst ha
      have DF := hide (U2.out.trans d4)
      clear hpn hpr
      unfold wpSeqS
      go_wp2_with fail
      go_ret
      exact ⟨false, rfl, ⟨(fun e => by cases e), fun e => (NE.out e).elim⟩, DF.out⟩
    · have hpr : ¬ ((s.prom.n : Int) = (t.prom.n : Int)) := by omega
      clear hp
      refine wpSeqS_take (by kernel_rfl) (by kernel_rfl) ?_
      apply Exists.intro
      refine ⟨fun wx hS => ?_, fun a' ha => ?_⟩
      · go_simp; rfl
      simp only [Act.put, List.setIfInBounds_toArray, List.set_cons_succ, List.set_cons_zero] at ha
      subst ha
      refine wpSeqS_take (by kernel_rfl) (by kernel_rfl) ?_
      apply Exists.intro
      refine ⟨fun wx hS => ?_, fun a' ha => ?_⟩
      · go_simp; rfl
      simp only [Act.put, List.setIfInBounds_toArray, List.set_cons_succ, List.set_cons_zero] at ha
      subst ha
      refine wpSeqS_one (by kernel_rfl) (by kernel_rfl) (fun K hK => ?_)
      go_simp
      refine (promise_any (w2.drewN 1) (A2.out.upd_nil d0)).mono ?_
      rintro e w3 ⟨rfl, hu3⟩
      have d3 := d0.trans hu3
      refine hK (fun wx => Upd [] w3 wx) _ _ (fun _ hx => (d3).trans hx) (Upd.refl [] _) ?_
      clear hK K
      try simp only [Act.put, List.setIfInBounds_toArray, List.set_cons_succ, List.set_cons_zero]
      refine wpSeqS_one (by kernel_rfl) (by kernel_rfl) (fun K hK => ?_)
      go_simp
      refine (promise_any w3 (B2.out.upd_nil d3)).mono ?_
      rintro e w4 ⟨rfl, hu4⟩
      have d4 := d3.trans hu4
      refine hK (fun wx => Upd [] w4 wx) _ _ (fun _ hx => (hu4).trans hx) (Upd.refl [] _) ?_
      clear hK K
      try simp only [Act.put, List.setIfInBounds_toArray, List.set_cons_succ, List.set_cons_zero]
      refine wpSeqS_take (by kernel_rfl) (by kernel_rfl) ?_
      apply Exists.intro
      refine ⟨fun wx hS => ?_, fun a' ha => ?_⟩
      · go_simp; rfl
      simp only [Act.put, List.setIfInBounds_toArray, List.set_cons_succ, List.set_cons_zero] at ha
      subst ha
      refine wpSeqS_take (by kernel_rfl) (by kernel_rfl) ?_
      apply Exists.intro
      refine ⟨fun wx hS => ?_, fun a' ha => ?_⟩
      · go_simp; rfl
      simp only [Act.put, List.setIfInBounds_toArray, List.set_cons_succ, List.set_cons_zero] at ha
      subst ha
      refine wpSeqS_skip (by kernel_rfl) (fun a' ha => ?_)
      simp only [Act.put, List.setIfInBounds_toArray, List.set_cons_succ, List.set_cons_zero] at ha
      subst ha
      refine wpSeqS_skip (by kernel_rfl) (fun a' ha => ?_)
      simp only [Act.put, List.setIfInBounds_toArray, List.set_cons_succ, List.set_cons_zero] at ha
      subst ha
      refine wpSeqS_skip (by kernel_rfl) (fun a' ha => ?_)
      simp only [Act.put, List.setIfInBounds_toArray, List.set_cons_succ, List.set_cons_zero] at ha
      subst ha
      refine wpSeqS_skip (by kernel_rfl) (fun a' ha => ?_)
      simp only [Act.put, List.setIfInBounds_toArray, List.set_cons_succ, List.set_cons_zero] at ha
      subst ha
      refine wpSeqS_skip (by kernel_rfl) (fun a' ha => ?_)
      simp only [Act.put, List.setIfInBounds_toArray, List.set_cons_succ, List.set_cons_zero] at ha
      subst ha
      refine wpSeqS_take (by kernel_rfl) (by kernel_rfl) ?_
      apply Exists.intro
      refine ⟨fun wx hS => ?_, fun a' ha => ?_⟩
      · go_simp; rfl
      simp only [Act.put, List.setIfInBounds_toArray, List.set_cons_succ, List.set_cons_zero] at ha
      subst ha
      refine wpSeqS_take (by kernel_rfl) (by kernel_rfl) ?_
      apply Exists.intro
      refine ⟨fun wx hS => ?_, fun a' ha => ?_⟩
      · go_simp; rfl
      simp only [Act.put, List.setIfInBounds_toArray, List.set_cons_succ, List.set_cons_zero] at ha
      subst ha
      refine wpSeqS_skip (by kernel_rfl) (fun a' ha => ?_)
      simp only [Act.put, List.setIfInBounds_toArray, List.set_cons_succ, List.set_cons_zero] at ha
      subst ha
      refine wpSeqS_skip (by kernel_rfl) (fun a' ha => ?_)
      simp only [Act.put, List.setIfInBounds_toArray, List.set_cons_succ, List.set_cons_zero] at ha
      subst ha
      refine wpSeqS_skip (by kernel_rfl) (fun a' ha => ?_)
      simp only [Act.put, List.setIfInBounds_toArray, List.set_cons_succ, List.set_cons_zero] at ha
      subst ha
      refine wpSeqS_skip (by kernel_rfl) (fun a' ha => ?_)
      simp only [Act.put, List.setIfInBounds_toArray, List.set_cons_succ, List.set_cons_zero] at ha
      subst ha
      refine wpSeqS_skip (by kernel_rfl) (fun a' ha => ?_)
      simp only [Act.put, List.setIfInBounds_toArray, List.set_cons_succ, List.set_cons_zero] at ha
      subst ha
      refine wpSeqS_skip (by kernel_rfl) (fun a' ha => ?_)
      simp only [Act.put, List.setIfInBounds_toArray, List.set_cons_succ, List.set_cons_zero] at ha
      subst ha
      refine wpSeqS_skip (by kernel_rfl) (fun a' ha => ?_)
      simp only [Act.put, List.setIfInBounds_toArray, List.set_cons_succ, List.set_cons_zero] at ha
      subst ha
      refine wpSeqS_take (by kernel_rfl) (by kernel_rfl) ?_
      apply Exists.intro
      refine ⟨fun wx hS => ?_, fun a' ha => ?_⟩
      · go_simp; rfl
      simp only [Act.put, List.setIfInBounds_toArray, List.set_cons_succ, List.set_cons_zero] at ha
      subst ha
      refine wpSeqS_take (by kernel_rfl) (by kernel_rfl) ?_
      apply Exists.intro
      refine ⟨fun wx hS => ?_, fun a' ha => ?_⟩
      · go_simp; rfl
      simp only [Act.put, List.setIfInBounds_toArray, List.set_cons_succ, List.set_cons_zero] at ha
      subst ha
      refine wpSeqS_skip (by kernel_rfl) (fun a' ha => ?_)
      simp only [Act.put, List.setIfInBounds_toArray, List.set_cons_succ, List.set_cons_zero] at ha
      subst ha
      refine wpSeqS_skip (by kernel_rfl) (fun a' ha => ?_)
      simp only [Act.put, List.setIfInBounds_toArray, List.set_cons_succ, List.set_cons_zero] at ha
      subst ha
      refine wpSeqS_skip (by kernel_rfl) (fun a' ha => ?_)
      simp only [Act.put, List.setIfInBounds_toArray, List.set_cons_succ, List.set_cons_zero] at ha
      subst ha
      refine wpSeqS_skip (by kernel_rfl) (fun a' ha => ?_)
      simp only [Act.put, List.setIfInBounds_toArray, List.set_cons_succ, List.set_cons_zero] at ha
      subst ha
      refine wpSeqS_skip (by kernel_rfl) (fun a' ha => ?_)
      simp only [Act.put, List.setIfInBounds_toArray, List.set_cons_succ, List.set_cons_zero] at ha
      subst ha
      refine wpSeqS_take (by kernel_rfl) (by kernel_rfl) ?_
      apply Exists.intro
      refine ⟨fun wx hS => ?_, fun a' ha => ?_⟩
      · go_simp; rfl
      simp only [Act.put, List.setIfInBounds_toArray, List.set_cons_succ, List.set_cons_zero] at ha
      subst ha
      have DF := hide (U2.out.trans d4)
      clear hpn hpr
      unfold wpSeqS
      go_wp2_with fail
      go_ret
      exact ⟨false, rfl, ⟨(fun e => by cases e), fun e => (NE.out e).elim⟩, DF.out⟩
end
end Go.Proofs.YtekbhfpdakhhkaaDoor.St
