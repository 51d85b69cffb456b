/- SgE, SgH, SgI in one text. -/
import Derived.Test.YtanjnhohfcgapaaGreatDoorSgD
set_option linter.unusedSimpArgs false
set_option linter.unusedVariables false
set_option linter.unnecessarySimpa false
namespace Go.Proofs.YtanjnhohfcgapaaGreatDoor.Sg
open Go.RowKit Go.Proofs.YtanjnhohfcgapaaGreatDoor.Crc Go.Proofs.YtanjnhohfcgapaaGreatDoor.Cm Go.Proofs.YtanjnhohfcgapaaGreatDoor.Tr Go.Proofs.YtanjnhohfcgapaaGreatDoor.Kv Go.Proofs.YtanjnhohfcgapaaGreatDoor.Au
set_option linter.unusedSimpArgs false
set_option linter.unusedVariables false

abbrev TVt : TypeId := 131
def vtc (v : Vt) (ks : Value) : List Value := [.bool v.has, .int .u64 (v.b.n : Int), .int .i64 v.b.r, .int .u32 (v.c.client : Int), .int .u32 (v.c.seq : Int), .int .u8 (v.c.kind : Int), ks, .string (strOf v.c.old), .string (strOf v.c.new), .int .i64 v.c.n]
theorem vtc_cells {w : World} {b : Nat} {v : Vt} {ks : Value} (h : w.heap[b]? = some (.cells (vtc v ks).toArray TVt (0, 0))) :
    w.cell? ⟨b, 0, none⟩ = some (.bool v.has) ∧ w.cell? ⟨b, 1, none⟩ = some (.int .u64 (v.b.n : Int)) ∧ w.cell? ⟨b, 2, none⟩ = some (.int .i64 v.b.r) ∧ w.cell? ⟨b, 3, none⟩ = some (.int .u32 (v.c.client : Int)) ∧ w.cell? ⟨b, 4, none⟩ = some (.int .u32 (v.c.seq : Int)) ∧ w.cell? ⟨b, 5, none⟩ = some (.int .u8 (v.c.kind : Int)) ∧ w.cell? ⟨b, 6, none⟩ = some ks ∧ w.cell? ⟨b, 7, none⟩ = some (.string (strOf v.c.old)) ∧ w.cell? ⟨b, 8, none⟩ = some (.string (strOf v.c.new)) ∧ w.cell? ⟨b, 9, none⟩ = some (.int .i64 v.c.n) ∧ ∀ i, w.frozen? ⟨b, i, none⟩ = false :=
  ⟨blk_cell h rfl, blk_cell h rfl, blk_cell h rfl, blk_cell h rfl, blk_cell h rfl, blk_cell h rfl, blk_cell h rfl, blk_cell h rfl, blk_cell h rfl, blk_cell h rfl, fun i => blk_free h⟩
theorem akc_cells {w : World} {b g : Nat} {a : Ak} {ks : Value} (h : w.heap[b]? = some (.cells (akc a g ks) TAk (0, 0))) :
    w.cell? ⟨b, 0, none⟩ = some (.int .u64 (a.b.n : Int)) ∧ w.cell? ⟨b, 1, none⟩ = some (.int .i64 a.b.r) ∧ w.cell? ⟨b, 2, none⟩ = some (.bool a.votes) ∧ w.cell? ⟨b, 3, none⟩ = some (.int .u32 (a.c.client : Int)) ∧ w.cell? ⟨b, 4, none⟩ = some (.int .u32 (a.c.seq : Int)) ∧ w.cell? ⟨b, 5, none⟩ = some (.int .u8 (a.c.kind : Int)) ∧ w.cell? ⟨b, 6, none⟩ = some ks ∧ w.cell? ⟨b, 7, none⟩ = some (.string (strOf a.c.old)) ∧ w.cell? ⟨b, 8, none⟩ = some (.string (strOf a.c.new)) ∧ w.cell? ⟨b, 9, none⟩ = some (.int .i64 a.c.n) ∧ w.cell? ⟨b, 10, none⟩ = some (.map (some g)) :=
  ⟨blk_cell h rfl, blk_cell h rfl, blk_cell h rfl, blk_cell h rfl, blk_cell h rfl, blk_cell h rfl, blk_cell h rfl, blk_cell h rfl, blk_cell h rfl, blk_cell h rfl, blk_cell h rfl⟩
theorem bestV_put {f : Nat → Option Vt} {i : Nat} {v : Vt} (hf : f i = some v) (h : (v.has && (!(bestV f i).has || decide (bLess (bestV f i).b v.b))) = true) : bestV f (i + 1) = v := by
  simp only [bestV, hf]
  rw [if_pos h]
theorem bestV_keep {f : Nat → Option Vt} {i : Nat} {v : Vt} (hf : f i = some v) (h : (v.has && (!(bestV f i).has || decide (bLess (bestV f i).b v.b))) = false) : bestV f (i + 1) = bestV f i := by
  simp only [bestV, hf]
  rw [if_neg (by rw [h]; simp)]
theorem bestV_none {f : Nat → Option Vt} {i : Nat} (hf : f i = none) : bestV f (i + 1) = bestV f i := by simp only [bestV, hf]
theorem bestV_step (f : Nat → Option Vt) (i : Nat) : bestV f (i + 1) = if (((f i).getD Vt.zero).has && (!(bestV f i).has || decide (bLess (bestV f i).b ((f i).getD Vt.zero).b))) = true then (f i).getD Vt.zero else bestV f i := by
  cases hf : f i with
  | none => simp [bestV, hf, Vt.zero]
  | some v => simp only [bestV, hf, Option.getD_some]
theorem cz_cells {w : World} {b : Nat} {v0 v1 v2 v3 v4 v5 v6 : Value} {t : TypeId} (h : w.heap[b]? = some (.cells #[v0, v1, v2, v3, v4, v5, v6] t (0, 0))) :
    w.cell? ⟨b, 0, none⟩ = some v0 ∧ w.cell? ⟨b, 1, none⟩ = some v1 ∧ w.cell? ⟨b, 2, none⟩ = some v2 ∧ w.cell? ⟨b, 3, none⟩ = some v3 ∧ w.cell? ⟨b, 4, none⟩ = some v4 ∧ w.cell? ⟨b, 5, none⟩ = some v5 ∧ w.cell? ⟨b, 6, none⟩ = some v6 :=
  ⟨blk_cell h rfl, blk_cell h rfl, blk_cell h rfl, blk_cell h rfl, blk_cell h rfl, blk_cell h rfl, blk_cell h rfl⟩
theorem storeV {w : World} {b : Nat} {a : Vt} {ka : Value} (h : w.heap[b]? = some (.cells (vtc a ka).toArray TVt (0, 0))) (v : Vt) (kv : Value) :
    ∃ W, ((((((((((w.setCell ⟨b, 0, none⟩ (.bool v.has)).setCell ⟨b, 1, none⟩ (.int .u64 (v.b.n : Int))).setCell ⟨b, 2, none⟩ (.int .i64 v.b.r)).setCell ⟨b, 3, none⟩ (.int .u32 (v.c.client : Int))).setCell ⟨b, 4, none⟩ (.int .u32 (v.c.seq : Int))).setCell ⟨b, 5, none⟩ (.int .u8 (v.c.kind : Int))).setCell ⟨b, 6, none⟩ (kv)).setCell ⟨b, 7, none⟩ (.string (strOf v.c.old))).setCell ⟨b, 8, none⟩ (.string (strOf v.c.new))).setCell ⟨b, 9, none⟩ (.int .i64 v.c.n)) = W ∧ W.heap[b]? = some (.cells (vtc v kv).toArray TVt (0, 0)) ∧ ∀ S q, Upd S q w → (b ∈ S ∨ q.heap.size ≤ b) → Upd S q W := by
  obtain ⟨h1, h2⟩ := stores (o := 0) (vtc v kv) h
  refine ⟨_, rfl, ?_, h2⟩
  have e : stepA (vtc a ka).toArray 0 (vtc v kv) = (vtc v kv).toArray := by
    simp only [stepA, vtc, List.setIfInBounds_toArray, List.set_cons_succ, List.set_cons_zero, Nat.zero_add, Nat.reduceAdd]
  rw [e] at h1
  exact h1
set_option maxRecDepth 100000 in
set_option maxHeartbeats 4000000 in
theorem best_any {T M : Nat → Prop} {z p : Nat} {x : Sg} {o : Ou} {G : Gh} {a : Ak} (w : World) (h : XAt w T M z p x o G) (ha : x.asks = some a) (hn : x.n ≤ 7) :
    Calls Tryz.prog 126 #[.pointer (some ⟨p, 0, none⟩)] w fun e w' => ∃ ks, e = .returned (cmv (bestM x.n a) ks) ∧ Ky w' T ks (bestM x.n a) ∧ Upd [] w w' := by
  have X0 := hide h
  have hA := h.2.asks
  have hpl := blk_lt h.1
  rw [ha] at hA
  obtain ⟨ab, g, kq, h1, h2, h3, h4, h5, h6⟩ := hA
  have h19 : w.cell? ⟨p, 19, none⟩ = some (.pointer (some ⟨ab, 0, none⟩)) := by rw [← h1]; exact blk_cell h.1 rfl
  have c1 : w.cell? ⟨p, 1, none⟩ = some (.int .i64 (x.n : Int)) := blk_cell h.1 rfl
  have H19 := hide h19; have A4 := hide h4; have HM := hide h5; have KQ := hide h6
  have hal0 := blk_lt h4
  clear h ha h1 h2 h3 h4 h5 h6
  go_enter Tryz.func126, Tryz.ntmps126
  go_wp2_with fail
  have hR := blk_alloc (blk_new w (.cells #[.int .u32 0, .int .u32 0, .int .u8 0, .slice none 0 0, .string ⟨#[]⟩, .string ⟨#[]⟩, .int .i64 0] Cm.TCmd)) (.cells (vtc Vt.zero (.slice none 0 0)).toArray TVt)
  have hO := blk_new (w.alloc (.cells #[.int .u32 0, .int .u32 0, .int .u8 0, .slice none 0 0, .string ⟨#[]⟩, .string ⟨#[]⟩, .int .i64 0] Cm.TCmd)) (.cells (vtc Vt.zero (.slice none 0 0)).toArray TVt)
  have hu := ((Upd.refl [] w).alloc (.cells #[.int .u32 0, .int .u32 0, .int .u8 0, .slice none 0 0, .string ⟨#[]⟩, .string ⟨#[]⟩, .int .i64 0] Cm.TCmd)).alloc (.cells (vtc Vt.zero (.slice none 0 0)).toArray TVt)
  simp only [World.size_alloc] at hO
  change Code.wp _ _ _ _ ((w.alloc (.cells #[.int .u32 0, .int .u32 0, .int .u8 0, .slice none 0 0, .string ⟨#[]⟩, .string ⟨#[]⟩, .int .i64 0] Cm.TCmd)).alloc (.cells (vtc Vt.zero (.slice none 0 0)).toArray TVt))
  generalize (w.alloc (.cells #[.int .u32 0, .int .u32 0, .int .u8 0, .slice none 0 0, .string ⟨#[]⟩, .string ⟨#[]⟩, .int .i64 0] Cm.TCmd)).alloc (.cells (vtc Vt.zero (.slice none 0 0)).toArray TVt) = w2 at *
  obtain ⟨B, hBn⟩ : ∃ B, w.heap.size = B := ⟨_, rfl⟩
  have HBn := hide hBn
  rw [hBn] at hR hO hpl hal0 ⊢
  have R2 := hide hR; have O2 := hide hO; have U2 := hide hu
  clear hR hO hu hBn c1 h19
  go_loopw [10] (fun si wx => ∃ i : Nat, i ≤ x.n ∧ si = .int .i64 i ∧ wx.heap[B]? = some (.cells #[.int .u32 0, .int .u32 0, .int .u8 0, .slice none 0 0, .string ⟨#[]⟩, .string ⟨#[]⟩, .int .i64 0] Cm.TCmd (0, 0)) ∧ (∃ xk ck, wx.heap[B + 1]? = some (.cells (vtc (bestV a.heard i) (.slice xk (bestV a.heard i).c.keys.length ck)).toArray TVt (0, 0)) ∧ Ky wx T (.slice xk (bestV a.heard i).c.keys.length ck) (bestV a.heard i).c) ∧ Upd [] w wx) (fun si wx => x.n - (RowKit.intOf si).toNat)
  case atStart => exact ⟨0, by omega, rfl, R2.out, ⟨none, 0, O2.out, Ky.zero _ _⟩, U2.out⟩
  case round =>
    obtain ⟨i, hi, rfl, hR, ⟨xk, ck, hO, hK⟩, hu⟩ := hrel
    have RR := hide hR; have OO := hide hO; have UU := hide hu; have KK := hide hK
    have hzr := hu.size
    have hpr : p < wr.heap.size := by have := HBn.out; omega
    have har : ab < wr.heap.size := by have := HBn.out; omega
    have hOl := blk_lt hO
    clear hR hO hu hK R2 O2 U2
    by_cases hlt : i < x.n
    · have d1 : decide ((i : Int) < x.n) = true := by simp; omega
      have d1' : decide (i < x.n) = true := by simpa using hlt
      have c19 : wr.cell? ⟨p, 19, none⟩ = some (.pointer (some ⟨ab, 0, none⟩)) := cell_upd H19.out UU.out (by simp)
      have a10 : wr.cell? ⟨ab, 10, none⟩ = some (.map (some g)) := (akc_cells (UU.out.get A4.out (by simp))).2.2.2.2.2.2.2.2.2.2
      have hg : g < w.heap.size := by obtain ⟨F, hF, -⟩ := HM.out; exact hF.lt
      obtain ⟨xv, cv, kv, -, lk⟩ := heard_look (HM.out.upd UU.out (by simp) (by simp)) i
      obtain ⟨v, hv⟩ : ∃ v, (a.heard i).getD Vt.zero = v := ⟨_, rfl⟩
      rw [hv] at kv lk
      obtain ⟨b, hb⟩ : ∃ b, bestV a.heard i = b := ⟨_, rfl⟩
      have hstep := bestV_step a.heard i
      rw [hv, hb] at hstep
      have OO' := OO.out; have KK' := KK.out
      rw [hb] at OO' KK'
      have KV := hide kv; have ST := hide hstep; have O1 := hide OO'; have K1 := hide KK'
      clear hv hb hstep OO' KK' OO KK kv hg
      unfold vtv at lk
      simp only [strV] at lk
      go_upto_region 6 with fail
      have hN := blk_new wr (.cells (vtc v (.slice xv v.c.keys.length cv)).toArray TVt)
      have hal := (Upd.refl [] wr).alloc (.cells (vtc v (.slice xv v.c.keys.length cv)).toArray TVt)
      change Code.wp _ _ _ _ (wr.alloc (.cells (vtc v (.slice xv v.c.keys.length cv)).toArray TVt))
      generalize wr.alloc (.cells (vtc v (.slice xv v.c.keys.length cv)).toArray TVt) = w3 at *
      have KV3 := hide (KV.out.upd hal (by simp)); have O3 := hide (hal.get O1.out (by simp)); have K3 := hide (K1.out.upd hal (by simp)); have R3 := hide (hal.get RR.out (by simp)); have U3 := hide (UU.out.trans hal)
      obtain ⟨E, hE⟩ : ∃ E, wr.heap.size = E := ⟨_, rfl⟩
      rw [hE] at hN hzr hpr har hOl ⊢
      have N3 := hide hN
      clear hE hal hN KV O1 K1 RR UU c19 a10 lk
      obtain ⟨x0, x1, x2, x3, x4, x5, x6, x7, x8, x9, xf⟩ := vtc_cells N3.out
      obtain ⟨y0, y1, y2, y3, y4, y5, y6, y7, y8, y9, yf⟩ := vtc_cells O3.out
      cases hvh : v.has with
      | false =>
        rw [hvh] at x0
        have HVH := hide hvh
        clear hvh
        go_wp2_with fail
        go_roundw
        case rel =>
          have e : bestV a.heard (i + 1) = b := by rw [ST.out, HVH.out]; simp
          exact ⟨i + 1, by omega, by go_num, R3.out, ⟨xk, ck, by rw [e]; exact O3.out, by rw [e]; exact K3.out⟩, U3.out⟩
        case measure => simp [RowKit.intOf]; omega
      | true =>
        rw [hvh] at x0
        have HVH := hide hvh
        clear hvh
        cases hbh : b.has with
        | false =>
          rw [hbh] at y0
          have HBH := hide hbh
          clear hbh
          go_wp2_with fail
          have e : bestV a.heard (i + 1) = v := by rw [ST.out, HVH.out, HBH.out]; simp
          have E1 := hide e
          clear e
          obtain ⟨W3, e3, hb3, hu3⟩ := storeV O3.out v (.slice xv v.c.keys.length cv)
          rw [HVH.out] at e3
          rw [e3]
          clear e3
          have us := hide (hu3 [B + 1] w3 (Upd.refl _ _) (.inl (by simp)))
          have HB3 := hide hb3
          clear hb3 hu3
          go_roundw
          case rel =>
            refine ⟨i + 1, by omega, by go_num, us.out.get R3.out (by simp), ⟨xv, cv, by rw [E1.out]; exact HB3.out, ?_⟩, U3.out.trans_new us.out (fun k hk => by simp at hk; have := HBn.out; exact .inr (by omega))⟩
            rw [E1.out]
            exact KV3.out.upd us.out (fun k hk ht => by simp at hk; subst hk; have := X0.out.2.apt.ltT _ ht; have := HBn.out; omega)
          case measure => simp [RowKit.intOf]; omega
        | true =>
          rw [hbh] at y0
          have HBH := hide hbh
          clear hbh
          go_wp2_with fail
          obtain ⟨L, hL⟩ : ∃ L, decide (bLess ⟨b.b.n, b.b.r⟩ ⟨v.b.n, v.b.r⟩) = L := ⟨_, rfl⟩
          have hl := less_nr b.b.n v.b.n b.b.r v.b.r w3
          rw [hL] at hl
          refine hl.mono ?_
          rintro e w4 ⟨rfl, hu4⟩
          have HL := hide (show decide (bLess b.b v.b) = L from hL)
          have KV4 := hide (KV3.out.upd hu4 (by simp)); have O4 := hide (hu4.get O3.out (by simp)); have K4 := hide (K3.out.upd hu4 (by simp)); have R4 := hide (hu4.get R3.out (by simp)); have U4 := hide (U3.out.trans hu4); have N4 := hide (hu4.get N3.out (by simp))
          clear hl hu4 hL x0 x1 x2 x3 x4 x5 x6 x7 x8 x9 xf y0 y1 y2 y3 y4 y5 y6 y7 y8 y9 yf KV3 O3 K3 R3 U3 N3
          rename World => w3
          have KV3 := KV4; have O3 := O4; have K3 := K4; have R3 := R4; have U3 := U4
          obtain ⟨x0, x1, x2, x3, x4, x5, x6, x7, x8, x9, xf⟩ := vtc_cells N4.out
          obtain ⟨y0, y1, y2, y3, y4, y5, y6, y7, y8, y9, yf⟩ := vtc_cells O3.out
          rw [HVH.out] at x0
          cases L with
          | true =>
            go_wp2_with fail
            have e : bestV a.heard (i + 1) = v := by rw [ST.out, HVH.out, HBH.out, HL.out]; simp
            have E1 := hide e
            clear e
            obtain ⟨W3, e3, hb3, hu3⟩ := storeV O3.out v (.slice xv v.c.keys.length cv)
            rw [HVH.out] at e3
            rw [e3]
            clear e3
            have us := hide (hu3 [B + 1] w3 (Upd.refl _ _) (.inl (by simp)))
            have HB3 := hide hb3
            clear hb3 hu3
            go_roundw
            case rel =>
              refine ⟨i + 1, by omega, by go_num, us.out.get R3.out (by simp), ⟨xv, cv, by rw [E1.out]; exact HB3.out, ?_⟩, U3.out.trans_new us.out (fun k hk => by simp at hk; have := HBn.out; exact .inr (by omega))⟩
              rw [E1.out]
              exact KV3.out.upd us.out (fun k hk ht => by simp at hk; subst hk; have := X0.out.2.apt.ltT _ ht; have := HBn.out; omega)
            case measure => simp [RowKit.intOf]; omega
          | false =>
            go_wp2_with fail
            go_roundw
            case rel =>
              have e : bestV a.heard (i + 1) = b := by rw [ST.out, HVH.out, HBH.out, HL.out]; simp
              exact ⟨i + 1, by omega, by go_num, R3.out, ⟨xk, ck, by rw [e]; exact O3.out, by rw [e]; exact K3.out⟩, U3.out⟩
            case measure => simp [RowKit.intOf]; omega
    · have d1 : decide ((i : Int) < x.n) = false := by simp; omega
      have d1' : decide (i < x.n) = false := by simp; omega
      have e : i = x.n := by omega
      subst e
      obtain ⟨y0, y1, y2, y3, y4, y5, y6, y7, y8, y9, yf⟩ := vtc_cells OO.out
      obtain ⟨r0, r1, r2, r3, r4, r5, r6⟩ := cz_cells RR.out
      have rf : ∀ i, wr.frozen? ⟨B, i, none⟩ = false := fun i => blk_free RR.out
      have c19 : wr.cell? ⟨p, 19, none⟩ = some (.pointer (some ⟨ab, 0, none⟩)) := cell_upd H19.out UU.out (by simp)
      obtain ⟨a0, a1, a2, a3, a4, a5, a6, a7, a8, a9, a10⟩ := akc_cells (UU.out.get A4.out (by simp))
      obtain ⟨xq, cq, rfl⟩ := KQ.out.slice
      cases hbh : (bestV a.heard x.n).has with
      | false =>
        rw [hbh] at y0
        have HBH := hide hbh
        clear hbh
        go_wp2_with fail
        obtain ⟨W3, e3, hb3, hu3⟩ := store7 RR.out (.int .u32 (a.c.client : Int)) (.int .u32 (a.c.seq : Int)) (.int .u8 (a.c.kind : Int)) (.slice xq a.c.keys.length cq) (.string (strOf a.c.old)) (.string (strOf a.c.new)) (.int .i64 a.c.n)
        rw [e3]
        try simp only [Exit.inBlock, Exit.then]
        have nT : ∀ k ∈ [B], ¬ T k := fun k hk ht => by simp at hk; subst hk; have := X0.out.2.apt.ltT _ ht; have := HBn.out; omega
        have hu4 := hu3 [B] wr (Upd.refl _ _) (.inl (by simp))
        have hbm : bestM x.n a = a.c := by unfold bestM; rw [HBH.out]; rfl
        refine ret_cm1 hb3 rfl rfl rfl ⟨.slice xq a.c.keys.length cq, by rw [hbm]; rfl, by rw [hbm]; exact (KQ.out.upd UU.out (by simp)).upd hu4 (nT), UU.out.trans_new hu4 (fun k hk => .inr (by simp at hk; have := HBn.out; omega))⟩
      | true =>
        rw [hbh] at y0
        have HBH := hide hbh
        clear hbh
        go_wp2_with fail
        obtain ⟨W3, e3, hb3, hu3⟩ := store7 RR.out (.int .u32 ((bestV a.heard x.n).c.client : Int)) (.int .u32 ((bestV a.heard x.n).c.seq : Int)) (.int .u8 ((bestV a.heard x.n).c.kind : Int)) (.slice xk (bestV a.heard x.n).c.keys.length ck) (.string (strOf (bestV a.heard x.n).c.old)) (.string (strOf (bestV a.heard x.n).c.new)) (.int .i64 (bestV a.heard x.n).c.n)
        rw [e3]
        try simp only [Exit.inBlock, Exit.then]
        have nT : ∀ k ∈ [B], ¬ T k := fun k hk ht => by simp at hk; subst hk; have := X0.out.2.apt.ltT _ ht; have := HBn.out; omega
        have hu4 := hu3 [B] wr (Upd.refl _ _) (.inl (by simp))
        have hbm : bestM x.n a = (bestV a.heard x.n).c := by unfold bestM; rw [HBH.out]; rfl
        refine ret_cm1 hb3 rfl rfl rfl ⟨.slice xk (bestV a.heard x.n).c.keys.length ck, by rw [hbm]; rfl, by rw [hbm]; exact KK.out.upd hu4 (nT), UU.out.trans_new hu4 (fun k hk => .inr (by simp at hk; have := HBn.out; omega))⟩
end Go.Proofs.YtanjnhohfcgapaaGreatDoor.Sg
namespace Go.Proofs.YtanjnhohfcgapaaGreatDoor.Sg
open Go.RowKit Go.Proofs.YtanjnhohfcgapaaGreatDoor.Crc Go.Proofs.YtanjnhohfcgapaaGreatDoor.Cm Go.Proofs.YtanjnhohfcgapaaGreatDoor.Tr Go.Proofs.YtanjnhohfcgapaaGreatDoor.Kv Go.Proofs.YtanjnhohfcgapaaGreatDoor.Au
set_option linter.unusedSimpArgs false
set_option linter.unusedVariables false

section
variable {w w3 : World} {T M : Nat → Prop} {z p : Nat} {x : Sg} {o : Ou} {G : Gh} {css : List (List Value)} {ao ao6 : Option Addr} {cap cap6 : Nat}
theorem XAt.log_open (h : XAt w T M z p x o G) : ∃ css ao cap, G.lv = .slice ao x.log.length cap ∧ Each (cmK.holds w T) x.log css ∧ (∀ cs ∈ css, cs.length = 7 ∧ ∀ u ∈ cs, u.oneCell' = true) ∧ w.ownsRow 0 Cm.TCmd 7 (.slice ao x.log.length cap) x.log.length css.flatten ∧ x.log.length ≤ cap ∧ cap ≤ maxLen := by
  obtain ⟨css, he1, he2, hown⟩ := h.2.log
  obtain ⟨ao, cap, hv, h1, h2, -⟩ := owns_slice hown
  rw [hv] at hown
  exact ⟨css, ao, cap, hv, he1, he2, hown, h1, h2⟩
theorem XAt.log_more {c : Cm} {cs : List Value} (h : XAt w T M z p x o G) (hv : G.lv = .slice ao x.log.length cap) (he : Each (cmK.holds w T) x.log css) (hb : ∀ cs ∈ css, cs.length = 7 ∧ ∀ u ∈ cs, u.oneCell' = true) (hk : cmK.holds w T c cs)
    (hown : w3.ownsRow 0 Cm.TCmd 7 (.slice ao6 (x.log.length + 1) cap6) (x.log.length + 1) (css.flatten ++ cs)) (hU : Upd (Value.slice ao x.log.length cap).ownBlock.toList w w3) (hn : ∀ g, (Value.slice ao6 (x.log.length + 1) cap6).ownBlock = some g → (Value.slice ao x.log.length cap).ownBlock = some g ∨ w.heap.size ≤ g) :
    (w3.heap[p]? = some (.cells (sgc x G) TSg (0, 0)) ∧ ∀ k, M k → p ≠ k ∨ k = p) ∧ XAt (w3.setCell ⟨p, 2, none⟩ (.slice ao6 (x.log.length + 1) cap6)) T (plus M (Value.slice ao6 (x.log.length + 1) cap6).ownBlock) z p { x with log := x.log ++ [c] } o { G with lv := .slice ao6 (x.log.length + 1) cap6 } ∧
      Ext w T M (w3.setCell ⟨p, 2, none⟩ (.slice ao6 (x.log.length + 1) cap6)) T (plus M (Value.slice ao6 (x.log.length + 1) cap6).ownBlock) := by
  have hsvn : ∀ k ∈ (Value.slice ao x.log.length cap).ownBlock.toList, G.lv.ownBlock = some k := fun k hk => by rw [hv]; simpa using hk
  have far : ∀ k ∈ (Value.slice ao x.log.length cap).ownBlock.toList, M k ∧ ¬ T k ∧ k ≠ p := fun k hk => by
    have h5 := h.2.nm.inM 1 k (congrArg some (hsvn k hk))
    exact ⟨h5.1, fun ht => h.2.apt.apart k ht h5.1, h.2.nm.ne (i := 1) (j := 0) (congrArg some (hsvn k hk)) rfl (by decide)⟩
  have hown4 : Own w3 0 Cm.TCmd 7 (cmK.holds w3 T) (.slice ao6 (x.log.length + 1) cap6) (x.log ++ [c]) :=
    Own.more (he.mono (Q := cmK.holds w3 T) fun y cs _ hy => cmK.upd hy hU fun k hk => (far k hk).2.1) hb (cmK.upd hk hU fun k hk => (far k hk).2.1) (cmK.len hk) (cmK.one hk) rfl hown
  have hn6' : ∀ k, (Value.slice ao6 (x.log.length + 1) cap6).ownBlock = some k → G.lv.ownBlock = some k ∨ w.heap.size ≤ k := fun k hk => by rw [hv]; exact hn k hk
  have hb4 := hU.get h.1 fun hk => (far p hk).2.2 rfl
  have R4 := h.2.log' (l' := x.log ++ [c]) hU hsvn hown4 hn6'
  have E4 := ((Ext.refl w T M).on hU fun k hk => .inl (far k hk).1).plus (o := (Value.slice ao6 (x.log.length + 1) cap6).ownBlock) fun k hk => by
    rcases hn6' k hk with h5 | h5
    · exact .inl (h.2.nm.inM 1 k (congrArg some h5)).1
    · exact .inr (by omega)
  have us : Upd [p] w3 (w3.setCell ⟨p, 2, none⟩ (.slice ao6 (x.log.length + 1) cap6)) := (Upd.refl [p] w3).setCell (p := ⟨p, 2, none⟩) (.inl (by simp)) _
  refine ⟨⟨hb4, fun k _ => by omega⟩, ⟨?_, R4.shift us fun k hk => by simp at hk; exact .inl hk⟩, E4.on us fun k hk => by simp at hk; subst hk; exact .inl R4.pM⟩
  exact blk_set (i := 2) hb4 (.slice ao6 (x.log.length + 1) cap6)
theorem XAt.waits_open (h : XAt w T M z p x o G) : ∃ css ao cap, G.wv = .slice ao x.waits.length cap ∧ Each (cmK.holds w T) x.waits css ∧ (∀ cs ∈ css, cs.length = 7 ∧ ∀ u ∈ cs, u.oneCell' = true) ∧ w.ownsRow 0 Cm.TCmd 7 (.slice ao x.waits.length cap) x.waits.length css.flatten ∧ x.waits.length ≤ cap ∧ cap ≤ maxLen := by
  obtain ⟨css, he1, he2, hown⟩ := h.2.waits
  obtain ⟨ao, cap, hv, h1, h2, -⟩ := owns_slice hown
  rw [hv] at hown
  exact ⟨css, ao, cap, hv, he1, he2, hown, h1, h2⟩
theorem XAt.waits_more {c : Cm} {cs : List Value} (h : XAt w T M z p x o G) (hv : G.wv = .slice ao x.waits.length cap) (he : Each (cmK.holds w T) x.waits css) (hb : ∀ cs ∈ css, cs.length = 7 ∧ ∀ u ∈ cs, u.oneCell' = true) (hk : cmK.holds w T c cs)
    (hown : w3.ownsRow 0 Cm.TCmd 7 (.slice ao6 (x.waits.length + 1) cap6) (x.waits.length + 1) (css.flatten ++ cs)) (hU : Upd (Value.slice ao x.waits.length cap).ownBlock.toList w w3) (hn : ∀ g, (Value.slice ao6 (x.waits.length + 1) cap6).ownBlock = some g → (Value.slice ao x.waits.length cap).ownBlock = some g ∨ w.heap.size ≤ g) :
    (w3.heap[p]? = some (.cells (sgc x G) TSg (0, 0)) ∧ ∀ k, M k → p ≠ k ∨ k = p) ∧ XAt (w3.setCell ⟨p, 18, none⟩ (.slice ao6 (x.waits.length + 1) cap6)) T (plus M (Value.slice ao6 (x.waits.length + 1) cap6).ownBlock) z p { x with waits := x.waits ++ [c] } o { G with wv := .slice ao6 (x.waits.length + 1) cap6 } ∧
      Ext w T M (w3.setCell ⟨p, 18, none⟩ (.slice ao6 (x.waits.length + 1) cap6)) T (plus M (Value.slice ao6 (x.waits.length + 1) cap6).ownBlock) := by
  have hsvn : ∀ k ∈ (Value.slice ao x.waits.length cap).ownBlock.toList, G.wv.ownBlock = some k := fun k hk => by rw [hv]; simpa using hk
  have far : ∀ k ∈ (Value.slice ao x.waits.length cap).ownBlock.toList, M k ∧ ¬ T k ∧ k ≠ p := fun k hk => by
    have h5 := h.2.nm.inM 2 k (congrArg some (hsvn k hk))
    exact ⟨h5.1, fun ht => h.2.apt.apart k ht h5.1, h.2.nm.ne (i := 2) (j := 0) (congrArg some (hsvn k hk)) rfl (by decide)⟩
  have hown4 : Own w3 0 Cm.TCmd 7 (cmK.holds w3 T) (.slice ao6 (x.waits.length + 1) cap6) (x.waits ++ [c]) :=
    Own.more (he.mono (Q := cmK.holds w3 T) fun y cs _ hy => cmK.upd hy hU fun k hk => (far k hk).2.1) hb (cmK.upd hk hU fun k hk => (far k hk).2.1) (cmK.len hk) (cmK.one hk) rfl hown
  have hn6' : ∀ k, (Value.slice ao6 (x.waits.length + 1) cap6).ownBlock = some k → G.wv.ownBlock = some k ∨ w.heap.size ≤ k := fun k hk => by rw [hv]; exact hn k hk
  have hb4 := hU.get h.1 fun hk => (far p hk).2.2 rfl
  have R4 := h.2.waits' (l' := x.waits ++ [c]) hU hsvn hown4 hn6'
  have E4 := ((Ext.refl w T M).on hU fun k hk => .inl (far k hk).1).plus (o := (Value.slice ao6 (x.waits.length + 1) cap6).ownBlock) fun k hk => by
    rcases hn6' k hk with h5 | h5
    · exact .inl (h.2.nm.inM 2 k (congrArg some h5)).1
    · exact .inr (by omega)
  have us : Upd [p] w3 (w3.setCell ⟨p, 18, none⟩ (.slice ao6 (x.waits.length + 1) cap6)) := (Upd.refl [p] w3).setCell (p := ⟨p, 18, none⟩) (.inl (by simp)) _
  refine ⟨⟨hb4, fun k _ => by omega⟩, ⟨?_, R4.shift us fun k hk => by simp at hk; exact .inl hk⟩, E4.on us fun k hk => by simp at hk; subst hk; exact .inl R4.pM⟩
  exact blk_set (i := 18) hb4 (.slice ao6 (x.waits.length + 1) cap6)
theorem XAt.ans_open (h : XAt w T M z p x o G) : ∃ css ao cap, G.av = .slice ao o.ans.length cap ∧ Each (anK.holds w T) o.ans css ∧ (∀ cs ∈ css, cs.length = 4 ∧ ∀ u ∈ cs, u.oneCell' = true) ∧ w.ownsRow z TAn 4 (.slice ao o.ans.length cap) o.ans.length css.flatten ∧ o.ans.length ≤ cap ∧ cap ≤ maxLen := by
  obtain ⟨css, he1, he2, hown⟩ := h.2.ans
  obtain ⟨ao, cap, hv, h1, h2, -⟩ := owns_slice hown
  rw [hv] at hown
  exact ⟨css, ao, cap, hv, he1, he2, hown, h1, h2⟩
theorem XAt.ans_more {c : An} {cs : List Value} (h : XAt w T M z p x o G) (hv : G.av = .slice ao o.ans.length cap) (he : Each (anK.holds w T) o.ans css) (hb : ∀ cs ∈ css, cs.length = 4 ∧ ∀ u ∈ cs, u.oneCell' = true) (hk : anK.holds w T c cs)
    (hown : w3.ownsRow z TAn 4 (.slice ao6 (o.ans.length + 1) cap6) (o.ans.length + 1) (css.flatten ++ cs)) (hU : Upd (Value.slice ao o.ans.length cap).ownBlock.toList w w3) (hn : ∀ g, (Value.slice ao6 (o.ans.length + 1) cap6).ownBlock = some g → (Value.slice ao o.ans.length cap).ownBlock = some g ∨ w.heap.size ≤ g) :
    (w3.heap[p]? = some (.cells (sgc x G) TSg (0, 0)) ∧ ∀ k, M k → p ≠ k ∨ k = p) ∧ XAt (w3.setCell ⟨p, 21, none⟩ (.slice ao6 (o.ans.length + 1) cap6)) T (plus M (Value.slice ao6 (o.ans.length + 1) cap6).ownBlock) z p x { o with ans := o.ans ++ [c] } { G with av := .slice ao6 (o.ans.length + 1) cap6 } ∧
      Ext w T M (w3.setCell ⟨p, 21, none⟩ (.slice ao6 (o.ans.length + 1) cap6)) T (plus M (Value.slice ao6 (o.ans.length + 1) cap6).ownBlock) := by
  have hsvn : ∀ k ∈ (Value.slice ao o.ans.length cap).ownBlock.toList, G.av.ownBlock = some k := fun k hk => by rw [hv]; simpa using hk
  have far : ∀ k ∈ (Value.slice ao o.ans.length cap).ownBlock.toList, M k ∧ ¬ T k ∧ k ≠ p := fun k hk => by
    have h5 := h.2.nm.inM 4 k (congrArg some (hsvn k hk))
    exact ⟨h5.1, fun ht => h.2.apt.apart k ht h5.1, h.2.nm.ne (i := 4) (j := 0) (congrArg some (hsvn k hk)) rfl (by decide)⟩
  have hown4 : Own w3 z TAn 4 (anK.holds w3 T) (.slice ao6 (o.ans.length + 1) cap6) (o.ans ++ [c]) :=
    Own.more (he.mono (Q := anK.holds w3 T) fun y cs _ hy => anK.upd hy hU fun k hk => (far k hk).2.1) hb (anK.upd hk hU fun k hk => (far k hk).2.1) (anK.len hk) (anK.one hk) rfl hown
  have hn6' : ∀ k, (Value.slice ao6 (o.ans.length + 1) cap6).ownBlock = some k → G.av.ownBlock = some k ∨ w.heap.size ≤ k := fun k hk => by rw [hv]; exact hn k hk
  have hb4 := hU.get h.1 fun hk => (far p hk).2.2 rfl
  have R4 := h.2.ans' (l' := o.ans ++ [c]) hU hsvn hown4 hn6'
  have E4 := ((Ext.refl w T M).on hU fun k hk => .inl (far k hk).1).plus (o := (Value.slice ao6 (o.ans.length + 1) cap6).ownBlock) fun k hk => by
    rcases hn6' k hk with h5 | h5
    · exact .inl (h.2.nm.inM 4 k (congrArg some h5)).1
    · exact .inr (by omega)
  have us : Upd [p] w3 (w3.setCell ⟨p, 21, none⟩ (.slice ao6 (o.ans.length + 1) cap6)) := (Upd.refl [p] w3).setCell (p := ⟨p, 21, none⟩) (.inl (by simp)) _
  refine ⟨⟨hb4, fun k _ => by omega⟩, ⟨?_, R4.shift us fun k hk => by simp at hk; exact .inl hk⟩, E4.on us fun k hk => by simp at hk; subst hk; exact .inl R4.pM⟩
  exact blk_set (i := 21) hb4 (.slice ao6 (o.ans.length + 1) cap6)
theorem XAt.done_open (h : XAt w T M z p x o G) : ∃ css ao cap, G.dv = .slice ao o.done.length cap ∧ Each (cmK.holds w T) o.done css ∧ (∀ cs ∈ css, cs.length = 7 ∧ ∀ u ∈ cs, u.oneCell' = true) ∧ w.ownsRow z Cm.TCmd 7 (.slice ao o.done.length cap) o.done.length css.flatten ∧ o.done.length ≤ cap ∧ cap ≤ maxLen := by
  obtain ⟨css, he1, he2, hown⟩ := h.2.done
  obtain ⟨ao, cap, hv, h1, h2, -⟩ := owns_slice hown
  rw [hv] at hown
  exact ⟨css, ao, cap, hv, he1, he2, hown, h1, h2⟩
theorem XAt.done_more {c : Cm} {cs : List Value} (h : XAt w T M z p x o G) (hv : G.dv = .slice ao o.done.length cap) (he : Each (cmK.holds w T) o.done css) (hb : ∀ cs ∈ css, cs.length = 7 ∧ ∀ u ∈ cs, u.oneCell' = true) (hk : cmK.holds w T c cs)
    (hown : w3.ownsRow z Cm.TCmd 7 (.slice ao6 (o.done.length + 1) cap6) (o.done.length + 1) (css.flatten ++ cs)) (hU : Upd (Value.slice ao o.done.length cap).ownBlock.toList w w3) (hn : ∀ g, (Value.slice ao6 (o.done.length + 1) cap6).ownBlock = some g → (Value.slice ao o.done.length cap).ownBlock = some g ∨ w.heap.size ≤ g) :
    (w3.heap[p]? = some (.cells (sgc x G) TSg (0, 0)) ∧ ∀ k, M k → p ≠ k ∨ k = p) ∧ XAt (w3.setCell ⟨p, 22, none⟩ (.slice ao6 (o.done.length + 1) cap6)) T (plus M (Value.slice ao6 (o.done.length + 1) cap6).ownBlock) z p x { o with done := o.done ++ [c] } { G with dv := .slice ao6 (o.done.length + 1) cap6 } ∧
      Ext w T M (w3.setCell ⟨p, 22, none⟩ (.slice ao6 (o.done.length + 1) cap6)) T (plus M (Value.slice ao6 (o.done.length + 1) cap6).ownBlock) := by
  have hsvn : ∀ k ∈ (Value.slice ao o.done.length cap).ownBlock.toList, G.dv.ownBlock = some k := fun k hk => by rw [hv]; simpa using hk
  have far : ∀ k ∈ (Value.slice ao o.done.length cap).ownBlock.toList, M k ∧ ¬ T k ∧ k ≠ p := fun k hk => by
    have h5 := h.2.nm.inM 5 k (congrArg some (hsvn k hk))
    exact ⟨h5.1, fun ht => h.2.apt.apart k ht h5.1, h.2.nm.ne (i := 5) (j := 0) (congrArg some (hsvn k hk)) rfl (by decide)⟩
  have hown4 : Own w3 z Cm.TCmd 7 (cmK.holds w3 T) (.slice ao6 (o.done.length + 1) cap6) (o.done ++ [c]) :=
    Own.more (he.mono (Q := cmK.holds w3 T) fun y cs _ hy => cmK.upd hy hU fun k hk => (far k hk).2.1) hb (cmK.upd hk hU fun k hk => (far k hk).2.1) (cmK.len hk) (cmK.one hk) rfl hown
  have hn6' : ∀ k, (Value.slice ao6 (o.done.length + 1) cap6).ownBlock = some k → G.dv.ownBlock = some k ∨ w.heap.size ≤ k := fun k hk => by rw [hv]; exact hn k hk
  have hb4 := hU.get h.1 fun hk => (far p hk).2.2 rfl
  have R4 := h.2.done' (l' := o.done ++ [c]) hU hsvn hown4 hn6'
  have E4 := ((Ext.refl w T M).on hU fun k hk => .inl (far k hk).1).plus (o := (Value.slice ao6 (o.done.length + 1) cap6).ownBlock) fun k hk => by
    rcases hn6' k hk with h5 | h5
    · exact .inl (h.2.nm.inM 5 k (congrArg some h5)).1
    · exact .inr (by omega)
  have us : Upd [p] w3 (w3.setCell ⟨p, 22, none⟩ (.slice ao6 (o.done.length + 1) cap6)) := (Upd.refl [p] w3).setCell (p := ⟨p, 22, none⟩) (.inl (by simp)) _
  refine ⟨⟨hb4, fun k _ => by omega⟩, ⟨?_, R4.shift us fun k hk => by simp at hk; exact .inl hk⟩, E4.on us fun k hk => by simp at hk; subst hk; exact .inl R4.pM⟩
  exact blk_set (i := 22) hb4 (.slice ao6 (o.done.length + 1) cap6)
/-- The application is turned. -/
theorem XAt.turned {w' : World} {app' : Ap} (h : XAt w T M z p x o G) (ht : Turned G.lo G.hi w w') (ha : ApIs w' G.lo G.hi G.ap app') : XAt w' T M z p { x with app := app' } o G ∧ Ext w T M w' T M ∧ (∀ b, ¬ M b → ∀ q, w.heap[b]? = some q → w'.heap[b]? = some q) ∧ ∀ ks c, Ky w T ks c → Ky w' T ks c := by
  have hR := h.2.app' ht ha
  have hp := h.2.nm.inM 0 p rfl
  obtain ⟨S, hS, hu⟩ := id ht
  have hM : ∀ k ∈ S, M k := fun k hk => h.2.appM k (hS k hk).1 (hS k hk).2
  exact ⟨⟨ht.get h.1 hp.2.2, hR⟩, (Ext.refl w T M).on hu fun k hk => .inl (hM k hk), fun b hb q hq => hu.get hq fun hk => hb (hM b hk), fun ks c hk => hk.upd hu fun k hk ht => h.2.apt.apart k ht (hM k hk)⟩
def zeros : List Value := [.int .u64 0, .int .i64 0, .int .u64 0, .int .i64 0, .bool false, .int .u64 0, .int .i64 0, .int .u32 0, .int .u32 0, .int .u8 0, .slice none 0 0, .string ⟨#[]⟩, .string ⟨#[]⟩, .int .i64 0]
/-- The slot is left. -/
theorem XAt.zeroed (h : XAt w T M z p x o G) : XAt ((stepW w p 4 zeros).setCell ⟨p, 19, none⟩ (.pointer none)) T (plus (plus M none) none) z p { x with promise := Bal.zero, seen := Bal.zero, vote := Vt.zero, asks := none } o { { G with ks := .slice none 0 0 } with akv := .pointer none, ab := none, gb := none } ∧
    Ext w T M ((stepW w p 4 zeros).setCell ⟨p, 19, none⟩ (.pointer none)) T (plus (plus M none) none) ∧ Upd [p] w ((stepW w p 4 zeros).setCell ⟨p, 19, none⟩ (.pointer none)) := by
  obtain ⟨h1, h2⟩ := stores (o := 4) zeros h.1
  have u1 := h2 [p] w (Upd.refl _ _) (.inl (by simp))
  have u2 : Upd [p] w ((stepW w p 4 zeros).setCell ⟨p, 19, none⟩ (.pointer none)) := u1.setCell (p := ⟨p, 19, none⟩) (.inl (by simp)) _
  have h5 := ((h.2.shift u2 (fun k hk => by simp at hk; exact .inl hk)).vote' (Ky.zero _ _)).asks' (Upd.refl [] _) (akv := .pointer none) (ab := none) (gb := none) (asks' := none) (by simp) ⟨rfl, rfl, rfl⟩ (by simp) (by simp) (by simp)
  have h6 := blk_set (i := 19) h1 (.pointer none)
  have e : (stepA (sgc x G) 4 zeros).setIfInBounds 19 (.pointer none) = sgc { x with promise := Bal.zero, seen := Bal.zero, vote := Vt.zero, asks := none } { { G with ks := .slice none 0 0 } with akv := .pointer none, ab := none, gb := none } := by
    simp only [stepA, zeros, sgc, List.setIfInBounds_toArray, List.set_cons_succ, List.set_cons_zero, Nat.zero_add, Nat.reduceAdd]
    rfl
  rw [e] at h6
  exact ⟨⟨h6, h5⟩, (((Ext.refl w T M).on u2 (fun k hk => by simp at hk; subst hk; exact .inl h.2.pM)).plus (o := none) (by simp)).plus (o := none) (by simp), u2⟩
/-- All cells of the replica's block. -/
theorem XAt.cells (h : w.heap[p]? = some (.cells (sgc x G) TSg (0, 0))) :
    w.cell? ⟨p, 4, none⟩ = some (.int .u64 (x.promise.n : Int)) ∧ w.cell? ⟨p, 5, none⟩ = some (.int .i64 x.promise.r) ∧ w.cell? ⟨p, 6, none⟩ = some (.int .u64 (x.seen.n : Int)) ∧ w.cell? ⟨p, 7, none⟩ = some (.int .i64 x.seen.r) ∧ w.cell? ⟨p, 8, none⟩ = some (.bool x.vote.has) ∧ w.cell? ⟨p, 9, none⟩ = some (.int .u64 (x.vote.b.n : Int)) ∧ w.cell? ⟨p, 10, none⟩ = some (.int .i64 x.vote.b.r) ∧
    w.cell? ⟨p, 11, none⟩ = some (.int .u32 (x.vote.c.client : Int)) ∧ w.cell? ⟨p, 12, none⟩ = some (.int .u32 (x.vote.c.seq : Int)) ∧ w.cell? ⟨p, 13, none⟩ = some (.int .u8 (x.vote.c.kind : Int)) ∧ w.cell? ⟨p, 14, none⟩ = some G.ks ∧ w.cell? ⟨p, 15, none⟩ = some (.string (strOf x.vote.c.old)) ∧ w.cell? ⟨p, 16, none⟩ = some (.string (strOf x.vote.c.new)) ∧ w.cell? ⟨p, 17, none⟩ = some (.int .i64 x.vote.c.n) ∧ w.cell? ⟨p, 19, none⟩ = some G.akv ∧ ∀ i, w.frozen? ⟨p, i, none⟩ = false :=
  ⟨blk_cell h rfl, blk_cell h rfl, blk_cell h rfl, blk_cell h rfl, blk_cell h rfl, blk_cell h rfl, blk_cell h rfl, blk_cell h rfl, blk_cell h rfl, blk_cell h rfl, blk_cell h rfl, blk_cell h rfl, blk_cell h rfl, blk_cell h rfl, blk_cell h rfl, fun i => blk_free h⟩
end
end Go.Proofs.YtanjnhohfcgapaaGreatDoor.Sg
namespace Go.Proofs.YtanjnhohfcgapaaGreatDoor.Sg
open Go.RowKit Go.Proofs.YtanjnhohfcgapaaGreatDoor.Crc Go.Proofs.YtanjnhohfcgapaaGreatDoor.Cm Go.Proofs.YtanjnhohfcgapaaGreatDoor.Tr Go.Proofs.YtanjnhohfcgapaaGreatDoor.Kv Go.Proofs.YtanjnhohfcgapaaGreatDoor.Au
set_option linter.unusedSimpArgs false
set_option linter.unusedVariables false

section
variable {w w' : World} {T M : Nat → Prop} {z p : Nat} {x : Sg} {o : Ou} {G : Gh} {a : Ak} {g k : Nat} {f : Nat → Option Vt} {v : Vt} {xk : Option Addr} {ck : Nat}
theorem heard_store (h : HmAt w T g f) (v : Vt) (hk : Ky w T (.slice xk v.c.keys.length ck) v.c) (hT : ¬ T g) (k : Nat) :
    ∃ W, (Instr.mapUpdate 138 (.map (some g)) (.int .i64 (k : Int)) (.agg #[.bool v.has, .int .u64 (v.b.n : Int), .int .i64 v.b.r, .int .u32 (v.c.client : Int), .int .u32 (v.c.seq : Int), .int .u8 (v.c.kind : Int), .slice xk v.c.keys.length ck, .string (strOf v.c.old), .string (strOf v.c.new), .int .i64 v.c.n])).run Tryz.prog w = .ok () W ∧ HmAt W T g (putH f k v) ∧ Upd [g] w W := by
  obtain ⟨F, h1, h2⟩ := h
  obtain ⟨W, e, h3, h4, -⟩ := h1.store Tryz.underlying138 k (vtv v (.slice xk v.c.keys.length ck))
  have nT : ∀ j ∈ [g], ¬ T j := fun j hj => by simp at hj; subst hj; exact hT
  refine ⟨W, e, ⟨_, h3, fun j => ⟨fun hj => ?_, fun u hu => ?_⟩⟩, h4⟩
  · unfold putH at hj
    split at hj
    · cases hj
    · rename_i hne; simp only [if_neg hne]; exact (h2 j).1 hj
  · unfold putH at hu
    split at hu
    · rename_i he; cases hu; exact ⟨_, if_pos he, hk.upd h4 nT⟩
    · rename_i hne
      obtain ⟨ks, h5, h6⟩ := (h2 j).2 u hu
      exact ⟨ks, by simp only [if_neg hne]; exact h5, h6.upd h4 nT⟩
theorem heard_len (h : HmAt w T g f) (n : Nat) (hn : HOk n f) (ty : TypeId) : (Builtin.len_ #[138] ty #[.map (some g)]).run Tryz.prog w = .ok (.int .i64 ((cntH n f : Nat) : Int)) w := by
  obtain ⟨F, h1, h2⟩ := h
  have e : ∀ j, (F j).isSome = (f j).isSome := fun j => by
    cases hf : f j with
    | none => rw [(h2 j).1 hf]; rfl
    | some v => obtain ⟨ks, h3, -⟩ := (h2 j).2 v hf; rw [h3]; rfl
  have := h1.len Tryz.underlying138 ty (n := n) (fun j hj => by
    cases hf : f j with
    | none => exact absurd ((h2 j).1 hf) hj
    | some v => exact (hn j v hf).1)
  rw [this]
  unfold cntH
  simp only [e]
theorem heard_clear (h : HmAt w T g f) (ty : TypeId) : ∃ W, (Builtin.clear_ #[138] ty #[.map (some g)]).run Tryz.prog w = .ok (.tuple #[]) W ∧ HmAt W T g noneH ∧ Upd [g] w W := by
  obtain ⟨F, h1, h2⟩ := h
  obtain ⟨W, e, h3, h4, -⟩ := h1.clear Tryz.underlying138 ty
  exact ⟨W, e, ⟨_, h3, fun j => ⟨fun _ => rfl, fun u hu => by cases hu⟩⟩, h4⟩
/-- What it asks for lies there. -/
theorem XAt.ask_open (h : XAt w T M z p x o G) (ha : x.asks = some a) : ∃ b g xk ck, G.akv = .pointer (some ⟨b, 0, none⟩) ∧ G.ab = some b ∧ G.gb = some g ∧ w.heap[b]? = some (.cells (akc a g (.slice xk a.c.keys.length ck)) TAk (0, 0)) ∧ HmAt w T g a.heard ∧ Ky w T (.slice xk a.c.keys.length ck) a.c ∧ M b ∧ M g ∧ b ≠ g ∧ b ≠ p ∧ g ≠ p ∧ ¬ T g ∧ ¬ T b := by
  have hA := h.2.asks
  rw [ha] at hA
  obtain ⟨b, g, ks, h1, h2, h3, h4, h5, h6⟩ := hA
  obtain ⟨xk, ck, rfl⟩ := h6.slice
  have hb := h.2.nm.inM 6 b (congrArg some h2)
  have hg := h.2.nm.inM 7 g (congrArg some h3)
  exact ⟨b, g, xk, ck, h1, h2, h3, h4, h5, h6, hb.1, hg.1, h.2.nm.ne (i := 6) (j := 7) (congrArg some h2) (congrArg some h3) (by decide), h.2.nm.ne (i := 6) (j := 0) (congrArg some h2) rfl (by decide), h.2.nm.ne (i := 7) (j := 0) (congrArg some h3) rfl (by decide), fun ht => h.2.apt.apart _ ht hg.1, fun ht => h.2.apt.apart _ ht hb.1⟩
/-- Its map is written. -/
theorem XAt.reheard {b : Nat} {ks : Value} (h : XAt w T M z p x o G) (ha : x.asks = some a) (h1 : G.akv = .pointer (some ⟨b, 0, none⟩)) (h2 : G.ab = some b) (h3 : G.gb = some g) (h4 : w.heap[b]? = some (.cells (akc a g ks) TAk (0, 0))) (h6 : Ky w T ks a.c) (hM : HmAt w' T g f) (hu : Upd [g] w w') :
    XAt w' T (plus (plus M G.ab) G.gb) z p { x with asks := some { a with heard := f } } o G ∧ Ext w T M w' T (plus (plus M G.ab) G.gb) := by
  have hb := h.2.nm.inM 6 b (congrArg some h2)
  have hg := h.2.nm.inM 7 g (congrArg some h3)
  have bg := h.2.nm.ne (i := 6) (j := 7) (congrArg some h2) (congrArg some h3) (by decide)
  have gp := h.2.nm.ne (i := 7) (j := 0) (congrArg some h3) rfl (by decide)
  have nT : ∀ j ∈ [g], ¬ T j := fun j hj => by simp at hj; subst hj; exact fun ht => h.2.apt.apart _ ht hg.1
  have hR := h.2.asks' hu (akv := G.akv) (ab := G.ab) (gb := G.gb) (asks' := some { a with heard := f }) (fun j hj => by simp at hj; subst hj; exact .inr (.inl h3)) ⟨b, g, ks, h1, h2, h3, hu.get h4 (by simp; exact bg), hM, h6.upd hu nT⟩ (fun j hj => .inl hj) (fun j hj => .inl hj) (fun j hj hj' => by
    rw [h2] at hj; rw [h3] at hj'; cases hj; cases hj'; exact bg rfl)
  refine ⟨⟨hu.get h.1 (by simp; exact fun e => gp e.symm), hR⟩, (((Ext.refl w T M).on hu (fun j hj => by simp at hj; subst hj; exact .inl hg.1)).plus (o := G.ab) fun j hj => .inl ?_).plus (o := G.gb) fun j hj => .inl (.inl ?_)⟩
  · rw [h2] at hj; cases hj; exact hb.1
  · rw [h3] at hj; cases hj; exact hg.1
/-- The vote is set. -/
def voteW (w : World) (p : Nat) (v : Vt) (ks : Value) : World := stepW w p 8 [.bool v.has, .int .u64 (v.b.n : Int), .int .i64 v.b.r, .int .u32 (v.c.client : Int), .int .u32 (v.c.seq : Int), .int .u8 (v.c.kind : Int), ks, .string (strOf v.c.old), .string (strOf v.c.new), .int .i64 v.c.n]
theorem XAt.setVote {ks : Value} (h : XAt w T M z p x o G) (hk : Ky w T ks v.c) : XAt (voteW w p v ks) T M z p { x with vote := v } o { G with ks := ks } ∧ Upd [p] w (voteW w p v ks) := by
  obtain ⟨h1, h2⟩ := stores (o := 8) [.bool v.has, .int .u64 (v.b.n : Int), .int .i64 v.b.r, .int .u32 (v.c.client : Int), .int .u32 (v.c.seq : Int), .int .u8 (v.c.kind : Int), ks, .string (strOf v.c.old), .string (strOf v.c.new), .int .i64 v.c.n] h.1
  have u1 : Upd [p] w (voteW w p v ks) := h2 [p] w (Upd.refl _ _) (.inl (by simp))
  have e : stepA (sgc x G) 8 [.bool v.has, .int .u64 (v.b.n : Int), .int .i64 v.b.r, .int .u32 (v.c.client : Int), .int .u32 (v.c.seq : Int), .int .u8 (v.c.kind : Int), ks, .string (strOf v.c.old), .string (strOf v.c.new), .int .i64 v.c.n] = sgc { x with vote := v } { G with ks := ks } := by
    simp only [stepA, sgc, List.setIfInBounds_toArray, List.set_cons_succ, List.set_cons_zero, Nat.zero_add, Nat.reduceAdd]
    rfl
  rw [e] at h1
  exact ⟨⟨h1, (h.2.shift u1 (fun k hk => by simp at hk; exact .inl hk)).vote' (hk.upd u1 fun k hk ht => by simp at hk; subst hk; exact h.2.apt.apart _ ht h.2.pM)⟩, u1⟩
theorem XAt.ext_p (h : XAt w T M z p x o G) (hu : Upd [p] w w') : Ext w T M w' T M := (Ext.refl w T M).on hu fun k hk => by simp at hk; subst hk; exact .inl h.2.pM
/-- Asked anew: a new map, a new block. -/
theorem XAt.asked {ks : Value} (h : XAt w T M z p x o G) (hk : Ky w T ks a.c) (hh : a.heard = noneH) (hw' : w' = ((w.alloc (.map #[] 0)).alloc (.cells (akc a w.heap.size ks) TAk)).setCell ⟨p, 19, none⟩ (.pointer (some ⟨w.heap.size + 1, 0, none⟩))) :
    ∃ M' G', XAt w' T M' z p { x with asks := some a } o G' ∧ Ext w T M w' T M' := by
  have ha1 := (Upd.refl [] w).alloc (.map #[] 0)
  have ha2 := ha1.alloc (.cells (akc a w.heap.size ks) TAk)
  have hsz : ((w.alloc (.map #[] 0)).alloc (.cells (akc a w.heap.size ks) TAk)).heap.size = w.heap.size + 2 := by simp
  have hu : Upd [p] ((w.alloc (.map #[] 0)).alloc (.cells (akc a w.heap.size ks) TAk)) w' := by rw [hw']; exact (Upd.refl [p] _).setCell (p := ⟨p, 19, none⟩) (.inl (by simp)) _
  have hU : Upd [p] w w' := (ha2.mono (by simp)).trans hu
  obtain ⟨w2, hw2⟩ : ∃ w2, (w.alloc (.map #[] 0)).alloc (.cells (akc a w.heap.size ks) TAk) = w2 := ⟨_, rfl⟩
  have hb : w2.heap[w.heap.size + 1]? = some (.cells (akc a w.heap.size ks) TAk (0, 0)) := by
    have := blk_new (w.alloc (.map #[] 0)) (.cells (akc a w.heap.size ks) TAk)
    rw [← hw2]
    rwa [World.size_alloc] at this
  have hg : w2.heap[w.heap.size]? = some (.map #[] 0) := by rw [← hw2]; exact blk_alloc (blk_new w _) _
  rw [hw2] at ha2 hsz hu hw'
  have key : Rs w2 T (plus (plus M (some (w.heap.size + 1))) (some w.heap.size)) z p x.log x.waits x.app x.vote.c (some a) o { G with akv := .pointer (some ⟨w.heap.size + 1, 0, none⟩), ab := some (w.heap.size + 1), gb := some w.heap.size } := by
    refine h.2.asks' ha2 (by simp) ⟨_, _, ks, rfl, rfl, rfl, hb, ⟨_, NIs.of hg, fun k => ⟨fun _ => rfl, fun v hv => by rw [hh] at hv; cases hv⟩⟩, hk.upd ha2 (by simp)⟩ (fun k hk => ?_) (fun k hk => ?_) (fun k hk hk' => ?_)
    · cases hk; exact .inr (by omega)
    · cases hk; exact .inr (by omega)
    · cases hk; simp at hk'
  refine ⟨_, _, ⟨?_, key.shift hu fun k hk => by simp at hk; exact .inl hk⟩, ((((Ext.refl w T M).on ha2 (by simp)).plus (o := some (w.heap.size + 1)) fun k hk => ?_).plus (o := some w.heap.size) fun k hk => ?_).on hu fun k hk => by simp at hk; subst hk; exact .inl (.inl (.inl h.2.pM))⟩
  · rw [hw']; exact blk_set (i := 19) (ha2.get h.1 (by simp)) (.pointer (some ⟨w.heap.size + 1, 0, none⟩))
  · cases hk; exact .inr (by omega)
  · cases hk; exact .inr (by omega)
end
theorem XAt.setPromise {w : World} {T M : Nat → Prop} {z p : Nat} {x : Sg} {o : Ou} {G : Gh} (h : XAt w T M z p x o G) (b : Bal) : XAt ((w.setCell ⟨p, 4, none⟩ (.int .u64 (b.n : Int))).setCell ⟨p, 5, none⟩ (.int .i64 b.r)) T M z p { x with promise := b } o G ∧ Upd [p] w ((w.setCell ⟨p, 4, none⟩ (.int .u64 (b.n : Int))).setCell ⟨p, 5, none⟩ (.int .i64 b.r)) := by
  have hu : Upd [p] w ((w.setCell ⟨p, 4, none⟩ (.int .u64 (b.n : Int))).setCell ⟨p, 5, none⟩ (.int .i64 b.r)) := ((Upd.refl [p] w).setCell (p := ⟨p, 4, none⟩) (.inl (by simp)) _).setCell (p := ⟨p, 5, none⟩) (.inl (by simp)) _
  have hb := blk_set (i := 5) (blk_set (i := 4) h.1 (.int .u64 (b.n : Int))) (.int .i64 b.r)
  exact ⟨⟨hb, h.2.shift hu fun k hk => by simp at hk; exact .inl hk⟩, hu⟩
end Go.Proofs.YtanjnhohfcgapaaGreatDoor.Sg
