/- KvPt, ApBy in one text. -/
import Derived.Test.YthpnnffogbjhpaaGreatDoorKvTxz
import Derived.Test.YthpnnffogbjhpaaGreatDoorVarAll
import Derived.Test.YthpnnffogbjhpaaGreatDoorTbPt
import Derived.Test.YthpnnffogbjhpaaGreatDoorKvTU
set_option linter.unusedSimpArgs false
set_option linter.unusedVariables false
set_option linter.unnecessarySimpa false
namespace Go.Proofs.YthpnnffogbjhpaaGreatDoor.Kv
set_option linter.unusedSimpArgs false
set_option linter.unusedVariables false
set_option linter.unnecessarySimpa false
open Go.RowKit Go.Lib Go.Proofs.YthpnnffogbjhpaaGreatDoor.Crc Go.Proofs.YthpnnffogbjhpaaGreatDoor.Cm Go.Proofs.YthpnnffogbjhpaaGreatDoor.Var

theorem klen_any {b g : Nat} {m : KM} (w : World) (h : StIs w b g m) : Calls Tryz.prog 22 #[.pointer (some ⟨b, 0, none⟩)] w fun e w' => e = .returned (.int .i64 (m.length : Int)) ∧ w = w' := by
  have n1 : ∀ ty, (Builtin.len_ #[113] ty #[.map (some g)]).run Tryz.prog w = .ok (.int .i64 (m.length : Int)) w := fun ty => MapKind.len h.map ty
  have c0 : w.cell? ⟨b, 0, none⟩ = some (.map (some g)) := blk_cell h.blk rfl
  clear h
  go_enter Tryz.func22, Tryz.ntmps22
  go_wp2_with fail
  go_ret
  exact ⟨rfl, rfl⟩
set_option maxRecDepth 100000 in
theorem kv_look1 {w : World} {g : Nat} {m : KM} {k : List UInt8} (h : kvK.is w g m) (hk : k.length ≤ 1000000) : (Instr.lookup 113 (.map (some g)) (.string (strOf k)) false).run Tryz.prog w = .ok (.string (strOf ((mfind m k).getD []))) w :=
  MapKind.look1 h (by show k.length ≤ maxLen; unfold maxLen; omega)
theorem rise_find {m : KM} {p : List UInt8 × List UInt8} (h : Rise strK m) (hp : p ∈ m) : mfind m p.1 = some p.2 := by
  induction m with
  | nil => cases hp
  | cons a t ih =>
    obtain ⟨h1, h2⟩ := List.pairwise_cons.1 h
    rw [mfind_cons]
    rcases List.mem_cons.1 hp with rfl | hp
    · rw [if_pos rfl]
    · have := h1 p hp
      rw [if_neg (fun e => by rw [e, strK.lt_irrefl] at this; cases this)]
      exact ih h2 hp
theorem prs_len (m : KM) (hm : KvOk m) : (m.flatMap prB).length ≤ 116 * m.length := by
  have key : ∀ l : KM, (∀ p ∈ l, p.1.length ≤ 32 ∧ p.2.length ≤ 64) → (l.flatMap prB).length ≤ 116 * l.length := by
    intro l
    induction l with
    | nil => simp
    | cons p l ih =>
      intro h
      have h1 := ih fun q hq => h q (by simp [hq])
      have h2 := h p (by simp)
      have h3 := uv_len10 (n := p.1.length) (by omega)
      have h4 := uv_len10 (n := p.2.length) (by omega)
      rw [List.flatMap_cons, List.length_append, List.length_cons]
      simp only [prB, txB, List.length_append]
      omega
  exact key m hm.2
set_option maxRecDepth 100000 in
set_option maxHeartbeats 4000000 in
theorem kput_of {base b g cap : Nat} {ao : Option Addr} {bs : List UInt8} {m : KM} (w : World) (h : StIs w b g m) (hm : KvOk m) (hl : m.length ≤ 1000000)
    (hU : Calls Tryz.prog 39 #[.slice ao bs.length cap, .int .u64 (m.length : Int)] w fun e w' => ∃ v', e = .returned v' ∧ Grew w base (.slice ao bs.length cap) (bs ++ uv m.length) v' w') (hb : base ≤ w.heap.size) (hbl : bs.length ≤ 100000000)
    (h1 : (Value.slice ao bs.length cap).ownBlock ≠ some b) (h2 : (Value.slice ao bs.length cap).ownBlock ≠ some g) :
    Calls Tryz.prog 38 #[.pointer (some ⟨b, 0, none⟩), .slice ao bs.length cap] w fun e w' => ∃ v', e = .returned v' ∧ Grew w base (.slice ao bs.length cap) (bs ++ kvB m) v' w' := by
  have hpr := prs_len m hm
  have hul := uv_len10 (n := m.length) (by omega)
  obtain ⟨B1, hB1⟩ : ∃ B, bs ++ uv m.length = B := ⟨_, rfl⟩
  have hb1l : B1.length ≤ 100000010 := by rw [← hB1, List.length_append]; omega
  have hgoal : bs ++ kvB m = B1 ++ m.flatMap prB := by rw [kvB, ← hB1]; simp
  rw [hgoal]
  clear hgoal
  have BB := hide hB1
  clear hB1
  have ST := hide h; have HM := hide hm; have HU := hide hU; have H1 := hide h1; have H2 := hide h2
  clear h hm hU h1 h2
  go_enter Tryz.func38, Tryz.ntmps38
  go_wp2_with fail
  refine (klen_any w ST.out).mono ?_
  rintro e w0 ⟨rfl, rfl⟩
  have e1 : IntKind.u64.wrap (m.length : Int) = (m.length : Int) := IntWalk.u64_in _ (by omega)
  go_wp2_with fail
  refine HU.out.mono ?_
  rw [BB.out]
  rintro e w1 ⟨v1, rfl, hg1⟩
  have G1 := hide hg1
  have ST1 := hide (ST.out.upd hg1.upd (by simpa using H1.out) (by simpa using H2.out))
  obtain ⟨a1, c1, rfl, -, -, -⟩ := owns_slice hg1.own
  have hz1 := hg1.upd.size
  clear hg1
  go_wp2_with fail
  refine (keys_any w1 ST1.out HM.out hl).mono ?_
  rintro e w2 ⟨⟨vk, rfl, hks⟩, hu2⟩
  have G2 := hide (Grew.upd_nil G1.out hu2); have ST2 := hide (ST1.out.upd_nil hu2)
  have hz2 := hu2.size
  obtain ⟨xo, cp, rfl, hk1, hk2, hget⟩ := hks.get
  have hol1 := owns_lt G1.out.own
  have hn1 := G1.out.new
  simp only [List.length_map] at hk1 hks ⊢
  have KS := hide hks; have KG := hide hget
  have HOL := hide hol1; have HN1 := hide hn1
  have hbl2 := blk_lt ST.out.blk; have hgl2 := MapKind.is_lt ST.out.map
  have HB1 := hide (show ∀ k, (Value.slice a1 B1.length c1).ownBlock = some k → k ≠ b ∧ k ≠ g ∧ k < w1.heap.size from fun k hk => by
    have h3 := hol1 k hk
    rcases hn1 k hk with h4 | h4
    · exact ⟨fun e => H1.out (e ▸ h4), fun e => H2.out (e ▸ h4), h3.2⟩
    · exact ⟨by omega, by omega, h3.2⟩)
  have G2' : Hid (Grew w2 base (.slice a1 B1.length c1) B1 (.slice a1 B1.length c1) w2) := hide ⟨G2.out.own, Upd.refl _ _, fun g hg => .inl hg⟩
  clear hks hget hu2 G1 ST1 hol1 hn1 HOL HN1
  have KSF := hide (show ∀ (j : Nat) (p : List UInt8 × List UInt8) (wr : World), m[j]? = some p → Upd (Value.slice a1 B1.length c1).ownBlock.toList w2 wr → ∃ b off, xo = some ⟨b, off, none⟩ ∧ wr.cell? ⟨b, off + j, none⟩ = some (.string (strOf p.1)) from fun j p wr hp hu => by
    obtain ⟨bk, ok, e1, hbk, hkc⟩ := KG.out j p.1 (by rw [List.getElem?_map, hp]; rfl)
    refine ⟨bk, ok, e1, cell_upd hkc hu (fun hm2 => ?_)⟩
    obtain ⟨xo', c', e2, -, -, -, hT⟩ := KS.out
    simp only [List.length_map, Value.slice.injEq, true_and] at e2
    obtain ⟨rfl, rfl⟩ := e2
    have h6 := hT _ e1 (by have := (List.getElem?_eq_some_iff.1 hp).1; rw [List.length_map]; omega)
    have h7 := (HB1.out bk (by simpa using hm2)).2.2
    have := h6.1
    simp only at this
    omega)
  clear KS KG
  go_wp2_with fail
  go_loopw [1, 15] (fun sb si wr => ∃ (j : Nat) (B : List UInt8), j ≤ m.length ∧ si = .int .i64 j ∧ B = B1 ++ (m.take j).flatMap prB ∧ Grew w2 base (.slice a1 B1.length c1) B sb wr) (fun _ si _ => m.length - (RowKit.intOf si).toNat)
  case atStart => exact ⟨0, B1, by omega, rfl, by simp, G2'.out⟩
  case round =>
    obtain ⟨j, B, hj, rfl, hB, hg⟩ := hrel
    obtain ⟨ab, cb, rfl, -, -, -⟩ := owns_slice hg.own
    have HG := hide hg; have HBB := hide hB
    have STr := hide (ST2.out.upd hg.upd (fun hm2 => (HB1.out b (by simpa using hm2)).1 rfl) (fun hm2 => (HB1.out g (by simpa using hm2)).2.1 rfl))
    have hzr := hg.upd.size
    have hbl : B.length ≤ 300000000 := by
      rw [hB, List.length_append]
      have h3 : ((m.take j).flatMap prB).length ≤ (m.flatMap prB).length := by
        conv => rhs; rw [← List.take_append_drop j m, List.flatMap_append, List.length_append]
        omega
      omega
    clear hg hB
    by_cases hlt : j < m.length
    · have d5 : decide ((j : Int) < m.length) = true := by simp; omega
      have d5' : decide (j < m.length) = true := by simpa using hlt
      obtain ⟨p, hp⟩ : ∃ p, m[j]? = some p := ⟨_, List.getElem?_eq_getElem hlt⟩
      obtain ⟨bk, ok, rfl, c1⟩ := KSF.out j p wr hp HG.out.upd
      have hpb := HM.out.2 p (List.mem_of_getElem? hp)
      have hfind : mfind m p.1 = some p.2 := rise_find HM.out.1 (List.mem_of_getElem? hp)
      have HP := hide hp; have HF := hide hfind
      clear hp hfind
      go_upto_region 5 with fail
      refine wp_region_z (fun wx => StIs wx b g m) 99 (by kernel_rfl) ?_
      have s0 : StIs (wr.drewN 1) b g m := STr.out.upd_nil ((Upd.refl [] _).drewN 1)
      refine zE 0 rfl (by kernel_rfl) (fun _ _ _ _ h => h) rfl (by exact s0) ?_
      apply Exists.intro
      refine ⟨fun wx hS => ?_, ?_⟩
      · go_simp; rfl
      simp only [Act.put, List.setIfInBounds_toArray, List.set_cons_succ, List.set_cons_zero, List.getElem_toArray, List.getElem_cons_zero]
      refine zE 1 rfl (by kernel_rfl) (fun _ _ _ _ h => h) rfl (by exact s0) ?_
      apply Exists.intro
      refine ⟨fun wx hS => ?_, ?_⟩
      · go_simp; rfl
      simp only [Act.put, zz1, zz2, zz3, zz4, zz5, zz6]
      refine zE 3 rfl (by kernel_rfl) (fun _ _ _ _ h => h) rfl (by exact s0) ?_
      apply Exists.intro
      refine ⟨fun wx hS => ?_, ?_⟩
      · go_simp; rfl
      simp only [Act.put, zz1, zz2, zz3, zz4, zz5, zz6]
      refine zE 4 rfl (by kernel_rfl) (fun _ _ _ _ h => h) rfl (by exact s0) ?_
      apply Exists.intro
      refine ⟨fun wx hS => ?_, ?_⟩
      · go_simp; rfl
      simp only [Act.put, zz1, zz2, zz3, zz4, zz5, zz6]
      refine zE 5 rfl (by kernel_rfl) (fun _ _ _ _ h => h) rfl (by exact s0) ?_
      apply Exists.intro
      refine ⟨fun wx hS => ?_, ?_⟩
      · go_simp; rfl
      simp only [Act.put, zz1, zz2, zz3, zz4, zz5, zz6]
      refine zE 6 rfl (by kernel_rfl) (fun _ _ _ _ h => h) rfl (by exact s0) ?_
      apply Exists.intro
      refine ⟨fun wx hS => ?_, ?_⟩
      · have c0 := blk_cell (i := 0) hS.blk rfl; go_simp; rfl
      simp only [Act.put, zz1, zz2, zz3, zz4, zz5, zz6]
      refine zE 7 rfl (by kernel_rfl) (fun _ _ _ _ h => h) rfl (by exact s0) ?_
      apply Exists.intro
      refine ⟨fun wx hS => ?_, ?_⟩
      · go_simp; rfl
      simp only [Act.put, zz1, zz2, zz3, zz4, zz5, zz6]
      refine zE 8 rfl (by kernel_rfl) (fun _ _ _ _ h => h) rfl (by exact s0) ?_
      apply Exists.intro
      refine ⟨fun wx hS => ?_, ?_⟩
      · have hm' := kv_look1 (k := p.1) hS.map (by omega); go_simp; rfl
      simp only [Act.put, zz1, zz2, zz3, zz4, zz5, zz6]
      refine wpAnyZ_one 2 (by kernel_rfl) rfl rfl (fun K hK => ?_)
      try simp only [List.getElem_toArray, List.getElem_cons_succ, List.getElem_cons_zero]
      go_simp
      have hzd : (wr.drewN 1).heap.size = wr.heap.size := rfl
      have h32 : (B ++ txB p.1).length ≤ 400000000 := by
        have h4 := uv_len10 (n := p.1.length) (by omega)
        simp only [txB, List.length_append]
        omega
      have hn4 : B ++ txB p.1 ++ txB p.2 = B1 ++ (m.take (j + 1)).flatMap prB := by
        rw [HBB.out, List.take_add_one, HP.out]
        simp [prB]
      obtain ⟨B2, hB2⟩ : ∃ x, B ++ txB p.1 = x := ⟨_, rfl⟩
      rw [hB2] at h32 hn4
      obtain ⟨B3, hB3⟩ : ∃ x, B2 ++ txB p.2 = x := ⟨_, rfl⟩
      rw [hB3] at hn4
      have K2 := hide hB2; have K3 := hide hB3; have HN := hide hn4
      clear hB2 hB3 hn4
      refine (text_any (base := base) (bs := B) (s := p.1) (wr.drewN 1) (owns_upd HG.out.own ((Upd.refl [] wr).drewN 1) (by simp)) (by rw [hzd]; omega) (by omega) (by omega)).mono ?_
      rw [K2.out]
      rintro e w3 ⟨v3, rfl, h3⟩
      have g3 := Grew.trans (Grew.upd_nil HG.out ((Upd.refl [] wr).drewN 1)) h3 (by rw [hzd]; omega)
      obtain ⟨a3, c3, rfl, -, -, -⟩ := owns_slice g3.own
      have s3 : StIs w3 b g m := ST2.out.upd g3.upd (fun hm2 => (HB1.out b (by simpa using hm2)).1 rfl) (fun hm2 => (HB1.out g (by simpa using hm2)).2.1 rfl)
      have hz3 := g3.upd.size
      have G3 := hide g3; have S3 := hide s3
      clear h3 g3
      refine hK _ _ (.inr s3) ?_
      clear hK K
      try simp only [Act.put, zz1, zz2, zz3]
      clear s0 s3
      refine wpAnyZ_one 9 (by kernel_rfl) rfl rfl (fun K hK => ?_)
      try simp only [List.getElem_toArray, List.getElem_cons_succ, List.getElem_cons_zero]
      go_simp
      rw [HF.out]
      refine (text_any (base := base) (bs := B2) (s := p.2) w3 G3.out.own (by omega) (by omega) (by omega)).mono ?_
      rw [K3.out]
      rintro e w4 ⟨v4, rfl, h4⟩
      have g4 := Grew.trans G3.out h4 (by omega)
      obtain ⟨a4, c4, rfl, -, -, -⟩ := owns_slice g4.own
      have s4 : StIs w4 b g m := ST2.out.upd g4.upd (fun hm2 => (HB1.out b (by simpa using hm2)).1 rfl) (fun hm2 => (HB1.out g (by simpa using hm2)).2.1 rfl)
      have G4 := hide g4
      clear h4 g4
      refine hK _ _ (.inr s4) ?_
      clear hK K
      try simp only [Act.put, zz1, zz2, zz3]
      refine zE 10 rfl (by kernel_rfl) (fun _ _ _ _ h => h) rfl (by exact s4) ?_
      apply Exists.intro
      refine ⟨fun wx hS => ?_, ?_⟩
      · go_simp; rfl
      simp only [Act.put, zz1, zz2, zz3, zz4, zz5, zz6]
      refine wpAnyZ_done (by kernel_rfl) ?_ _
      clear s4
      go_wp2_with fail
      go_roundw
      case rel => exact ⟨j + 1, _, by omega, by go_num, HN.out, G4.out⟩
      case measure => simp [RowKit.intOf]; omega
    · have d5 : decide ((j : Int) < m.length) = false := by simp; omega
      have d5' : decide (j < m.length) = false := by simpa using hlt
      have hje : m.take j = m := List.take_of_length_le (by omega)
      rw [hje] at HBB
      have hb2 := HBB.out
      subst hb2
      clear hlt hje HBB
      go_wp2_with fail
      go_ret
      exact ⟨_, rfl, Grew.trans G2.out HG.out (by omega)⟩
theorem kput_any {base b g : Nat} {v : Value} {bs : List UInt8} {m : KM} (w : World) (h : StIs w b g m) (hm : KvOk m) (hl : m.length ≤ 1000000) (hv : w.ownsRow base 5 1 v bs.length (bs.map u8v)) (hb : base ≤ w.heap.size) (hbl : bs.length ≤ 100000000)
    (h1 : v.ownBlock ≠ some b) (h2 : v.ownBlock ≠ some g) :
    Calls Tryz.prog 38 #[.pointer (some ⟨b, 0, none⟩), v] w fun e w' => ∃ v', e = .returned v' ∧ Grew w base v (bs ++ kvB m) v' w' := by
  obtain ⟨ao, cap, rfl, -, -, -⟩ := owns_slice hv
  exact kput_of w h hm hl (uint_any (base := base) (n := m.length) _ hv hb (by omega) (by omega)) hb hbl h1 h2
end Go.Proofs.YthpnnffogbjhpaaGreatDoor.Kv
namespace Go.Proofs.YthpnnffogbjhpaaGreatDoor.Kv
set_option linter.unusedSimpArgs false
set_option linter.unusedVariables false
open Go.RowKit Go.Lib Go.Proofs.YthpnnffogbjhpaaGreatDoor.Crc Go.Proofs.YthpnnffogbjhpaaGreatDoor.Cm Go.Proofs.YthpnnffogbjhpaaGreatDoor.Var

/-- What an application must be for its bytes to be told. -/
structure ApW (a : Ap) : Prop where
  kv : KvOk a.m
  len : a.m.length ≤ 100000
  tab : TbPut a.t
  n : a.n < 18446744073709551616
theorem ApOk.w {a : Ap} {i : Nat} (h : ApOk a i) (hi : i ≤ 10000) : ApW a := ⟨h.kv, by have := h.len; omega, ⟨h.rise, by have := h.tab; omega, fun p hp => by obtain ⟨h1, h2, h3, h4⟩ := h.row p hp; exact ⟨h1, h2, by omega, by omega⟩⟩, by have := h.n; omega⟩
theorem astateW_any {lo hi p : Nat} {a : Ap} (w : World) (h : ApIs w lo hi p a) (ho : ApW a) : Calls Tryz.prog 17 #[.pointer (some ⟨p, 0, none⟩)] w fun e w' => (∃ b' g', e = .returned (.pointer (some ⟨b', 0, none⟩)) ∧ StIs w' b' g' a.m ∧ w.heap.size ≤ b' ∧ w.heap.size ≤ g') ∧ Upd [] w w' := by
  obtain ⟨sb, sg, tb, tc, tg, h, -⟩ := h
  have c2 : w.cell? ⟨p, 0, none⟩ = some (.pointer (some ⟨sb, 0, none⟩)) := blk_cell h.blk rfl
  have ST := hide h.st; have OK := hide ho
  clear h ho
  go_enter Tryz.func17, Tryz.ntmps17
  go_wp2_with fail
  refine (kcopy_any w ST.out OK.out.kv (by have := OK.out.len; omega)).mono ?_
  rintro e w1 ⟨⟨b', g', rfl, h1, h2, h3⟩, hu⟩
  have S1 := hide h1; have U1 := hide hu
  clear h1 hu c2
  go_wp2_with fail
  go_ret
  exact ⟨⟨_, _, rfl, S1.out, h2, h3⟩, U1.out⟩
theorem atableW_any {lo hi p : Nat} {a : Ap} (w : World) (h : ApIs w lo hi p a) (ho : ApW a) : Calls Tryz.prog 19 #[.pointer (some ⟨p, 0, none⟩)] w fun e w' => (∃ b' c' g', e = .returned (.pointer (some ⟨b', 0, none⟩)) ∧ TbIs w' b' c' g' a.t ∧ w.heap.size ≤ b' ∧ w.heap.size ≤ c' ∧ w.heap.size ≤ g') ∧ Upd [] w w' := by
  obtain ⟨sb, sg, tb, tc, tg, h, -⟩ := h
  have c2 : w.cell? ⟨p, 1, none⟩ = some (.pointer (some ⟨tb, 0, none⟩)) := blk_cell h.blk rfl
  have ST := hide h.tab; have OK := hide ho
  clear h ho
  go_enter Tryz.func19, Tryz.ntmps19
  go_wp2_with fail
  refine (tcopy_any w ST.out OK.out.tab.1 (fun p hp => (OK.out.tab.2.2 p hp).1) (by have := OK.out.tab.2.1; omega)).mono ?_
  rintro e w1 ⟨⟨b', c', g', rfl, h1, h2, h3, h4⟩, hu⟩
  have S1 := hide h1; have U1 := hide hu
  clear h1 hu c2
  go_wp2_with fail
  go_ret
  exact ⟨⟨_, _, _, rfl, S1.out, h2, h3, h4⟩, U1.out⟩
set_option maxRecDepth 100000 in
theorem acopyW_any {lo hi p : Nat} {a : Ap} (w : World) (h : ApIs w lo hi p a) (ho : ApW a) : Calls Tryz.prog 11 #[.pointer (some ⟨p, 0, none⟩)] w fun e w' => (∃ q, e = .returned (.pointer (some ⟨q, 0, none⟩)) ∧ ApIs w' w.heap.size w'.heap.size q a) ∧ Upd [] w w' := by
  have H := hide h; have OK := hide ho
  clear h ho
  go_enter Tryz.func11, Tryz.ntmps11
  go_wp2_with fail
  refine (astateW_any w H.out OK.out).mono ?_
  rintro e w1 ⟨⟨b1, g1, rfl, h1, h2, h3⟩, hu⟩
  have S1 := hide h1; have U1 := hide hu; have H1 := hide (H.out.upd_nil hu)
  clear h1 hu
  go_wp2_with fail
  refine (atableW_any w1 H1.out OK.out).mono ?_
  rintro e w2 ⟨⟨b2, c2, g2, rfl, h4, h5, h6, h7⟩, hu⟩
  have S2 := hide (S1.out.upd_nil hu); have T2 := hide h4; have U2 := hide (U1.out.trans hu); have H2 := hide (H1.out.upd_nil hu)
  have hz1 := U1.out.size
  clear h4 hu
  go_wp2_with fail
  refine (acount_any w2 H2.out).mono ?_
  rintro e w3 ⟨rfl, rfl⟩
  go_wp2_with fail
  go_ret
  have l0 := blk_lt S1.out.blk; have l1 := MapKind.is_lt S1.out.map
  have l2 := blk_lt T2.out.blk; have l3 := blk_lt T2.out.cli; have l4 := MapKind.is_lt T2.out.map
  have hz := U2.out.size
  have m0 := blk_lt S2.out.blk; have m1 := MapKind.is_lt S2.out.map
  refine ⟨⟨_, rfl, b1, g1, b2, c2, g2, ⟨blk_new w2 _, S2.out.upd_nil ((Upd.refl [] w2).alloc _), T2.out.upd_nil ((Upd.refl [] w2).alloc _), by omega⟩, ?_⟩, U2.out.alloc _⟩
  simp only [World.size_alloc]
  omega
set_option maxRecDepth 100000 in
set_option maxHeartbeats 2000000 in
theorem abytes_any {lo hi p : Nat} {a : Ap} (w : World) (h : ApIs w lo hi p a) (ho : ApW a) :
    Calls Tryz.prog 8 #[.pointer (some ⟨p, 0, none⟩)] w fun e w' => ∃ v, e = .returned v ∧ w'.ownsRow w.heap.size 5 1 v (apB a).length ((apB a).map u8v) ∧ Upd [] w w' := by
  have H := hide h; have OK := hide ho
  clear h ho
  have hpr := prs_len a.m OK.out.kv
  have hln := OK.out.len
  have hnn := OK.out.n
  have hul := uv_len10 (n := a.n) hnn
  have hul2 := uv_len10 (n := a.m.length) (by omega)
  obtain ⟨B1, hB1⟩ : ∃ x, [] ++ uv a.n = x := ⟨_, rfl⟩
  obtain ⟨B2, hB2⟩ : ∃ x, B1 ++ kvB a.m = x := ⟨_, rfl⟩
  obtain ⟨B3, hB3⟩ : ∃ x, B2 ++ tbB a.t = x := ⟨_, rfl⟩
  have hap : apB a = B3 := by rw [← hB3, ← hB2, ← hB1, apB]; simp
  have b1 : B1.length ≤ 10 := by rw [← hB1]; simpa using hul
  have b2 : B2.length ≤ 12000000 := by rw [← hB2, List.length_append, kvB, List.length_append]; omega
  rw [hap]
  have K1 := hide hB1; have K2 := hide hB2; have K3 := hide hB3
  clear hap hB1 hB2 hB3 hpr hul hul2
  go_enter Tryz.func8, Tryz.ntmps8
  go_wp2_with fail
  refine (acopyW_any w H.out OK.out).mono ?_
  rintro e w1 ⟨⟨q, rfl, sb, sg, tb, tc, tg, h1, k1, k2, k3, k4, k5, k6, k7, k8, k9, k10, k11, k12⟩, hu⟩
  have A1 := hide h1; have U1 := hide hu
  have hz1 := hu.size
  clear h1 hu
  obtain ⟨n1, n2, n3, n4, n5, n6, n7, n8, n9, n10, n11⟩ := A1.out.nes
  go_wp2_with fail
  refine wp_region_z (fun wy => wy.heap[q]? = some (.cells #[.pointer (some ⟨sb, 0, none⟩), .pointer (some ⟨tb, 0, none⟩), .int .u64 (a.n : Int)] TApp (0, 0))) 99 (by kernel_rfl) ?_
  have s0 : (w1.drewN 1).heap[q]? = some (.cells #[.pointer (some ⟨sb, 0, none⟩), .pointer (some ⟨tb, 0, none⟩), .int .u64 (a.n : Int)] TApp (0, 0)) := A1.out.blk
  refine zE 0 rfl (by kernel_rfl) (fun _ _ _ _ h => h) rfl (by exact s0) ?_
  apply Exists.intro
  refine ⟨fun wx hS => ?_, ?_⟩
  · go_simp; rfl
  simp only [Act.put, List.setIfInBounds_toArray, List.set_cons_succ, List.set_cons_zero, List.getElem_toArray, List.getElem_cons_zero]
  refine zE 1 rfl (by kernel_rfl) (fun _ _ _ _ h => h) rfl (by exact s0) ?_
  apply Exists.intro
  refine ⟨fun wx hS => ?_, ?_⟩
  · go_simp; rfl
  simp only [Act.put, zz1, zz2, zz3, zz4, zz5, zz6]
  refine zE 2 rfl (by kernel_rfl) (fun _ _ _ _ h => h) rfl (by exact s0) ?_
  apply Exists.intro
  refine ⟨fun wx hS => ?_, ?_⟩
  · go_simp; rfl
  simp only [Act.put, zz1, zz2, zz3, zz4, zz5, zz6]
  refine zE 3 rfl (by kernel_rfl) (fun _ _ _ _ h => h) rfl (by exact s0) ?_
  apply Exists.intro
  refine ⟨fun wx hS => ?_, ?_⟩
  · go_simp; rfl
  simp only [Act.put, zz1, zz2, zz3, zz4, zz5, zz6]
  refine zE 5 rfl (by kernel_rfl) (fun _ _ _ _ h => h) rfl (by exact s0) ?_
  apply Exists.intro
  refine ⟨fun wx hS => ?_, ?_⟩
  · go_simp; rfl
  simp only [Act.put, zz1, zz2, zz3, zz4, zz5, zz6]
  refine zE 6 rfl (by kernel_rfl) (fun _ _ _ _ h => h) rfl (by exact s0) ?_
  apply Exists.intro
  refine ⟨fun wx hS => ?_, ?_⟩
  · go_simp; rfl
  simp only [Act.put, zz1, zz2, zz3, zz4, zz5, zz6]
  refine zE 7 rfl (by kernel_rfl) (fun _ _ _ _ h => h) rfl (by exact s0) ?_
  apply Exists.intro
  refine ⟨fun wx hS => ?_, ?_⟩
  · go_simp; rfl
  simp only [Act.put, zz1, zz2, zz3, zz4, zz5, zz6]
  refine zE 8 rfl (by kernel_rfl) (fun _ _ _ _ h => h) rfl (by exact s0) ?_
  apply Exists.intro
  refine ⟨fun wx hS => ?_, ?_⟩
  · go_simp; rfl
  simp only [Act.put, zz1, zz2, zz3, zz4, zz5, zz6]
  refine zE 10 rfl (by kernel_rfl) (fun _ _ _ _ h => h) rfl (by exact s0) ?_
  apply Exists.intro
  refine ⟨fun wx hS => ?_, ?_⟩
  · go_simp; rfl
  simp only [Act.put, zz1, zz2, zz3, zz4, zz5, zz6]
  refine zE 11 rfl (by kernel_rfl) (fun _ _ _ _ h => h) rfl (by exact s0) ?_
  apply Exists.intro
  refine ⟨fun wx hS => ?_, ?_⟩
  · go_simp; rfl
  simp only [Act.put, zz1, zz2, zz3, zz4, zz5, zz6]
  refine zE 12 rfl (by kernel_rfl) (fun _ _ _ _ h => h) rfl (by exact s0) ?_
  apply Exists.intro
  refine ⟨fun wx hS => ?_, ?_⟩
  · go_simp; rfl
  simp only [Act.put, zz1, zz2, zz3, zz4, zz5, zz6]
  refine zE 13 rfl (by kernel_rfl) (fun _ _ _ _ h => h) rfl (by exact s0) ?_
  apply Exists.intro
  refine ⟨fun wx hS => ?_, ?_⟩
  · go_simp; rfl
  simp only [Act.put, zz1, zz2, zz3, zz4, zz5, zz6]
  refine zE 4 rfl (by kernel_rfl) (fun _ _ _ _ h => h) rfl (by exact s0) ?_
  apply Exists.intro
  refine ⟨fun wx hS => ?_, ?_⟩
  · have c0 := blk_cell (i := 1) hS rfl; go_simp; rfl
  simp only [Act.put, zz1, zz2, zz3, zz4, zz5, zz6]
  refine zE 9 rfl (by kernel_rfl) (fun _ _ _ _ h => h) rfl (by exact s0) ?_
  apply Exists.intro
  refine ⟨fun wx hS => ?_, ?_⟩
  · have c0 := blk_cell (i := 0) hS rfl; go_simp; rfl
  simp only [Act.put, zz1, zz2, zz3, zz4, zz5, zz6]
  refine zE 14 rfl (by kernel_rfl) (fun _ _ _ _ h => h) rfl (by exact s0) ?_
  apply Exists.intro
  refine ⟨fun wx hS => ?_, ?_⟩
  · have c0 := blk_cell (i := 2) hS rfl; go_simp; rfl
  simp only [Act.put, zz1, zz2, zz3, zz4, zz5, zz6]
  refine wpAnyZ_one 15 (by kernel_rfl) rfl rfl (fun K hK => ?_)
  try simp only [List.getElem_toArray, List.getElem_cons_succ, List.getElem_cons_zero]
  go_simp
  have hzd : (w1.drewN 1).heap.size = w1.heap.size := rfl
  refine (uint_any (base := w1.heap.size) (n := a.n) (v := .slice none 0 0) (bs := []) (w1.drewN 1) (World.ownsRow_nil _ _ _ _) (by rw [hzd]; exact Nat.le_refl _) (by simp) hnn).mono ?_
  rw [K1.out]
  rintro e w2 ⟨v2, rfl, h2⟩
  obtain ⟨a2, c2, rfl, -, -, -⟩ := owns_slice h2.own
  have hu2 : Upd [] w1 w2 := ((Upd.refl [] w1).drewN 1).trans (h2.upd.mono (by simp [Value.ownBlock]))
  have s2 := hu2.get A1.out.blk (by simp)
  have N2 := hide (show ∀ k, (Value.slice a2 B1.length c2).ownBlock = some k → w1.heap.size ≤ k from fun k hk => (owns_lt h2.own k hk).1)
  have A2 := hide (A1.out.upd hu2 (by simp) (by simp) (by simp) (by simp) (by simp) (by simp))
  have O2 := hide h2.own; have U2 := hide hu2
  have hz2 := hu2.size
  clear h2 hu2
  refine hK _ _ (.inr s2) ?_
  clear hK K
  try simp only [Act.put, zz1, zz2, zz3]
  clear s0
  refine wpAnyZ_one 16 (by kernel_rfl) rfl rfl (fun K hK => ?_)
  try simp only [List.getElem_toArray, List.getElem_cons_succ, List.getElem_cons_zero]
  go_simp
  refine (kput_any (base := w1.heap.size) w2 A2.out.st OK.out.kv (by omega) O2.out (by omega) (by omega) (fun e => by have := N2.out _ e; omega) (fun e => by have := N2.out _ e; omega)).mono ?_
  rw [K2.out]
  rintro e w3 ⟨v3, rfl, h3⟩
  obtain ⟨a3, c3, rfl, -, -, -⟩ := owns_slice h3.own
  have hne : ∀ k, k < w1.heap.size → k ∉ (Value.slice a2 B1.length c2).ownBlock.toList := fun k hk hm => by have := N2.out k (by simpa using hm); omega
  have s3 := h3.upd.get s2 (hne q (by omega))
  have N3 := hide (show ∀ k, (Value.slice a3 B2.length c3).ownBlock = some k → w1.heap.size ≤ k from fun k hk => (owns_lt h3.own k hk).1)
  have A3 := hide (A2.out.upd h3.upd (hne _ (by omega)) (hne _ (by omega)) (hne _ (by omega)) (hne _ (by omega)) (hne _ (by omega)) (hne _ (by omega)))
  have U3 := hide (U2.out.trans_new h3.upd (fun k hk => .inr (N2.out k (by simpa using hk))))
  have O3 := hide h3.own
  have hz3 := h3.upd.size
  clear h3 s2
  refine hK _ _ (.inr s3) ?_
  clear hK K
  try simp only [Act.put, zz1, zz2, zz3]
  refine wpAnyZ_one 17 (by kernel_rfl) rfl rfl (fun K hK => ?_)
  try simp only [List.getElem_toArray, List.getElem_cons_succ, List.getElem_cons_zero]
  go_simp
  refine (tput_any (base := w1.heap.size) w3 A3.out.tab OK.out.tab O3.out (by omega) (by omega) (fun e => by have := N3.out _ e; omega) (fun e => by have := N3.out _ e; omega) (fun e => by have := N3.out _ e; omega)).mono ?_
  rw [K3.out]
  rintro e w4 ⟨v4, rfl, h4⟩
  have hne3 : ∀ k, k < w1.heap.size → k ∉ (Value.slice a3 B2.length c3).ownBlock.toList := fun k hk hm => by have := N3.out k (by simpa using hm); omega
  have s4 := h4.upd.get s3 (hne3 q (by omega))
  have U4 := hide (U3.out.trans_new h4.upd (fun k hk => .inr (N3.out k (by simpa using hk))))
  have O4 := hide h4.own
  clear h4 s3
  refine hK _ _ (.inr s4) ?_
  clear hK K
  try simp only [Act.put, zz1, zz2, zz3]
  refine zE 18 rfl (by kernel_rfl) (fun _ _ _ _ h => h) rfl (by exact s4) ?_
  apply Exists.intro
  refine ⟨fun wx hS => ?_, ?_⟩
  · go_simp; rfl
  simp only [Act.put, zz1, zz2, zz3, zz4, zz5, zz6]
  refine wpAnyZ_done (by kernel_rfl) ?_ _
  clear s4
  go_wp2_with fail
  go_ret
  refine ⟨_, rfl, ?_, U1.out.trans U4.out⟩
  refine ⟨O4.out.1, ?_⟩
  rcases O4.out.2 with h5 | ⟨g, cap, cur, hv, hg, r⟩
  · exact .inl h5
  · exact .inr ⟨g, cap, cur, hv, by omega, r⟩
end Go.Proofs.YthpnnffogbjhpaaGreatDoor.Kv
