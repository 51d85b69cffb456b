/- kv.State.Len, Get, Put. -/
import Derived.Test.YthpnnffogbjhpaaGreatDoorKvKz
import Derived.Test.YthpnnffogbjhpaaGreatDoorKvTx
import Derived.Test.YthpnnffogbjhpaaGreatDoorVarAll
set_option linter.unusedSimpArgs false
set_option linter.unusedVariables false
set_option linter.unnecessarySimpa false
namespace Go.Proofs.YthpnnffogbjhpaaGreatDoor.Kv
set_option linter.unusedSimpArgs false
set_option linter.unusedVariables false
set_option linter.unnecessarySimpa false
open Go.RowKit Go.Lib Go.Proofs.YthpnnffogbjhpaaGreatDoor.Crc Go.Proofs.YthpnnffogbjhpaaGreatDoor.Cm Go.Proofs.YthpnnffogbjhpaaGreatDoor.Var

theorem klen_any {b g : Nat} {m : KM} (w : World) (h : StIs w b g m) : Calls Tryz.prog 22 #[.pointer (some ⟨b, 0, none⟩)] w fun e w' => e = .returned (.int .i64 (m.length : Int)) ∧ w = w' := by
  have n1 : ∀ ty, (Builtin.len_ #[113] ty #[.map (some g)]).run Tryz.prog w = .ok (.int .i64 (m.length : Int)) w := fun ty => MapKind.len h.map ty
  have c0 : w.cell? ⟨b, 0, none⟩ = some (.map (some g)) := blk_cell h.blk rfl
  clear h
  go_enter Tryz.func22, Tryz.ntmps22
  go_wp2_with fail
  go_ret
  exact ⟨rfl, rfl⟩
set_option maxRecDepth 100000 in
theorem kv_look1 {w : World} {g : Nat} {m : KM} {k : List UInt8} (h : kvK.is w g m) (hk : k.length ≤ 1000000) : (Instr.lookup 113 (.map (some g)) (.string (strOf k)) false).run Tryz.prog w = .ok (.string (strOf ((mfind m k).getD []))) w :=
  MapKind.look1 h (by show k.length ≤ maxLen; unfold maxLen; omega)
theorem rise_find {m : KM} {p : List UInt8 × List UInt8} (h : Rise strK m) (hp : p ∈ m) : mfind m p.1 = some p.2 := by
  induction m with
  | nil => cases hp
  | cons a t ih =>
    obtain ⟨h1, h2⟩ := List.pairwise_cons.1 h
    rw [mfind_cons]
    rcases List.mem_cons.1 hp with rfl | hp
    · rw [if_pos rfl]
    · have := h1 p hp
      rw [if_neg (fun e => by rw [e, strK.lt_irrefl] at this; cases this)]
      exact ih h2 hp
theorem prs_len (m : KM) (hm : KvOk m) : (m.flatMap prB).length ≤ 116 * m.length := by
  have key : ∀ l : KM, (∀ p ∈ l, p.1.length ≤ 32 ∧ p.2.length ≤ 64) → (l.flatMap prB).length ≤ 116 * l.length := by
    intro l
    induction l with
    | nil => simp
    | cons p l ih =>
      intro h
      have h1 := ih fun q hq => h q (by simp [hq])
      have h2 := h p (by simp)
      have h3 := uv_len10 (n := p.1.length) (by omega)
      have h4 := uv_len10 (n := p.2.length) (by omega)
      rw [List.flatMap_cons, List.length_append, List.length_cons]
      simp only [prB, txB, List.length_append]
      omega
  exact key m hm.2
set_option maxRecDepth 100000 in
set_option maxHeartbeats 4000000 in
theorem kput_of {base b g cap : Nat} {ao : Option Addr} {bs : List UInt8} {m : KM} (w : World) (h : StIs w b g m) (hm : KvOk m) (hl : m.length ≤ 1000000)
    (hU : Calls Tryz.prog 39 #[.slice ao bs.length cap, .int .u64 (m.length : Int)] w fun e w' => ∃ v', e = .returned v' ∧ Grew w base (.slice ao bs.length cap) (bs ++ uv m.length) v' w') (hb : base ≤ w.heap.size) (hbl : bs.length ≤ 100000000)
    (h1 : (Value.slice ao bs.length cap).ownBlock ≠ some b) (h2 : (Value.slice ao bs.length cap).ownBlock ≠ some g) :
    Calls Tryz.prog 38 #[.pointer (some ⟨b, 0, none⟩), .slice ao bs.length cap] w fun e w' => ∃ v', e = .returned v' ∧ Grew w base (.slice ao bs.length cap) (bs ++ kvB m) v' w' := by
  have hpr := prs_len m hm
  have hul := uv_len10 (n := m.length) (by omega)
  obtain ⟨B1, hB1⟩ : ∃ B, bs ++ uv m.length = B := ⟨_, rfl⟩
  have hb1l : B1.length ≤ 100000010 := by rw [← hB1, List.length_append]; omega
  have hgoal : bs ++ kvB m = B1 ++ m.flatMap prB := by rw [kvB, ← hB1]; simp
  rw [hgoal]
  clear hgoal
  have BB := hide hB1
  clear hB1
  have ST := hide h; have HM := hide hm; have HU := hide hU; have H1 := hide h1; have H2 := hide h2
  clear h hm hU h1 h2
  go_enter Tryz.func38, Tryz.ntmps38
  go_wp2_with fail
  refine (klen_any w ST.out).mono ?_
  rintro e w0 ⟨rfl, rfl⟩
  have e1 : IntKind.u64.wrap (m.length : Int) = (m.length : Int) := IntWalk.u64_in _ (by omega)
  go_wp2_with fail
  refine HU.out.mono ?_
  rw [BB.out]
  rintro e w1 ⟨v1, rfl, hg1⟩
  have G1 := hide hg1
  have ST1 := hide (ST.out.upd hg1.upd (by simpa using H1.out) (by simpa using H2.out))
  obtain ⟨a1, c1, rfl, -, -, -⟩ := owns_slice hg1.own
  have hz1 := hg1.upd.size
  clear hg1
  go_wp2_with fail
  refine (keys_any w1 ST1.out HM.out hl).mono ?_
  rintro e w2 ⟨⟨vk, rfl, hks⟩, hu2⟩
  have G2 := hide (Grew.upd_nil G1.out hu2); have ST2 := hide (ST1.out.upd_nil hu2)
  have hz2 := hu2.size
  obtain ⟨xo, cp, rfl, hk1, hk2, hget⟩ := hks.get
  have hol1 := owns_lt G1.out.own
  have hn1 := G1.out.new
  simp only [List.length_map] at hk1 hks ⊢
  have KS := hide hks; have KG := hide hget
  have HOL := hide hol1; have HN1 := hide hn1
  have hbl2 := blk_lt ST.out.blk; have hgl2 := MapKind.is_lt ST.out.map
  have HB1 := hide (show ∀ k, (Value.slice a1 B1.length c1).ownBlock = some k → k ≠ b ∧ k ≠ g ∧ k < w1.heap.size from fun k hk => by
    have h3 := hol1 k hk
    rcases hn1 k hk with h4 | h4
    · exact ⟨fun e => H1.out (e ▸ h4), fun e => H2.out (e ▸ h4), h3.2⟩
    · exact ⟨by omega, by omega, h3.2⟩)
  have G2' : Hid (Grew w2 base (.slice a1 B1.length c1) B1 (.slice a1 B1.length c1) w2) := hide ⟨G2.out.own, Upd.refl _ _, fun g hg => .inl hg⟩
  clear hks hget hu2 G1 ST1 hol1 hn1 HOL HN1
  have KSF := hide (show ∀ (j : Nat) (p : List UInt8 × List UInt8) (wr : World), m[j]? = some p → Upd (Value.slice a1 B1.length c1).ownBlock.toList w2 wr → ∃ b off, xo = some ⟨b, off, none⟩ ∧ wr.cell? ⟨b, off + j, none⟩ = some (.string (strOf p.1)) from fun j p wr hp hu => by
    obtain ⟨bk, ok, e1, hbk, hkc⟩ := KG.out j p.1 (by rw [List.getElem?_map, hp]; rfl)
    refine ⟨bk, ok, e1, cell_upd hkc hu (fun hm2 => ?_)⟩
    obtain ⟨xo', c', e2, -, -, -, hT⟩ := KS.out
    simp only [List.length_map, Value.slice.injEq, true_and] at e2
    obtain ⟨rfl, rfl⟩ := e2
    have h6 := hT _ e1 (by have := (List.getElem?_eq_some_iff.1 hp).1; rw [List.length_map]; omega)
    have h7 := (HB1.out bk (by simpa using hm2)).2.2
    have := h6.1
    simp only at this
    omega)
  clear KS KG
  go_wp2_with fail
  go_loopw [1, 15] (fun sb si wr => ∃ (j : Nat) (B : List UInt8), j ≤ m.length ∧ si = .int .i64 j ∧ B = B1 ++ (m.take j).flatMap prB ∧ Grew w2 base (.slice a1 B1.length c1) B sb wr) (fun _ si _ => m.length - (RowKit.intOf si).toNat)
  case atStart => exact ⟨0, B1, by omega, rfl, by simp, G2'.out⟩
  case round =>
    obtain ⟨j, B, hj, rfl, hB, hg⟩ := hrel
    obtain ⟨ab, cb, rfl, -, -, -⟩ := owns_slice hg.own
    have HG := hide hg; have HBB := hide hB
    have STr := hide (ST2.out.upd hg.upd (fun hm2 => (HB1.out b (by simpa using hm2)).1 rfl) (fun hm2 => (HB1.out g (by simpa using hm2)).2.1 rfl))
    have hzr := hg.upd.size
    have hbl : B.length ≤ 300000000 := by
      rw [hB, List.length_append]
      have h3 : ((m.take j).flatMap prB).length ≤ (m.flatMap prB).length := by
        conv => rhs; rw [← List.take_append_drop j m, List.flatMap_append, List.length_append]
        omega
      omega
    clear hg hB
    by_cases hlt : j < m.length
    · have d5 : decide ((j : Int) < m.length) = true := by simp; omega
      have d5' : decide (j < m.length) = true := by simpa using hlt
      obtain ⟨p, hp⟩ : ∃ p, m[j]? = some p := ⟨_, List.getElem?_eq_getElem hlt⟩
      obtain ⟨bk, ok, rfl, c1⟩ := KSF.out j p wr hp HG.out.upd
      have hpb := HM.out.2 p (List.mem_of_getElem? hp)
      have hfind : mfind m p.1 = some p.2 := rise_find HM.out.1 (List.mem_of_getElem? hp)
      have HP := hide hp; have HF := hide hfind
      clear hp hfind
      go_upto_region 5 with fail
      refine wp_region_z (fun wx => StIs wx b g m) 99 (by kernel_rfl) ?_
      have s0 : StIs (wr.drewN 1) b g m := STr.out.upd_nil ((Upd.refl [] _).drewN 1)
      refine zE 0 rfl (by kernel_rfl) (fun _ _ _ _ h => h) rfl (by exact s0) ?_
      apply Exists.intro
      refine ⟨fun wx hS => ?_, ?_⟩
      · go_simp; rfl
      simp only [Act.put, List.setIfInBounds_toArray, List.set_cons_succ, List.set_cons_zero, List.getElem_toArray, List.getElem_cons_zero]
      refine zE 1 rfl (by kernel_rfl) (fun _ _ _ _ h => h) rfl (by exact s0) ?_
      apply Exists.intro
      refine ⟨fun wx hS => ?_, ?_⟩
      · go_simp; rfl
      simp only [Act.put, zz1, zz2, zz3, zz4, zz5, zz6]
      refine zE 3 rfl (by kernel_rfl) (fun _ _ _ _ h => h) rfl (by exact s0) ?_
      apply Exists.intro
      refine ⟨fun wx hS => ?_, ?_⟩
      · go_simp; rfl
      simp only [Act.put, zz1, zz2, zz3, zz4, zz5, zz6]
      refine zE 4 rfl (by kernel_rfl) (fun _ _ _ _ h => h) rfl (by exact s0) ?_
      apply Exists.intro
      refine ⟨fun wx hS => ?_, ?_⟩
      · go_simp; rfl
      simp only [Act.put, zz1, zz2, zz3, zz4, zz5, zz6]
      refine zE 5 rfl (by kernel_rfl) (fun _ _ _ _ h => h) rfl (by exact s0) ?_
      apply Exists.intro
      refine ⟨fun wx hS => ?_, ?_⟩
      · go_simp; rfl
      simp only [Act.put, zz1, zz2, zz3, zz4, zz5, zz6]
      refine zE 6 rfl (by kernel_rfl) (fun _ _ _ _ h => h) rfl (by exact s0) ?_
      apply Exists.intro
      refine ⟨fun wx hS => ?_, ?_⟩
      · have c0 := blk_cell (i := 0) hS.blk rfl; go_simp; rfl
      simp only [Act.put, zz1, zz2, zz3, zz4, zz5, zz6]
      refine zE 7 rfl (by kernel_rfl) (fun _ _ _ _ h => h) rfl (by exact s0) ?_
      apply Exists.intro
      refine ⟨fun wx hS => ?_, ?_⟩
      · go_simp; rfl
      simp only [Act.put, zz1, zz2, zz3, zz4, zz5, zz6]
      refine zE 8 rfl (by kernel_rfl) (fun _ _ _ _ h => h) rfl (by exact s0) ?_
      apply Exists.intro
      refine ⟨fun wx hS => ?_, ?_⟩
      · have hm' := kv_look1 (k := p.1) hS.map (by omega); go_simp; rfl
      simp only [Act.put, zz1, zz2, zz3, zz4, zz5, zz6]
      refine wpAnyZ_one 2 (by kernel_rfl) rfl rfl (fun K hK => ?_)
      try simp only [List.getElem_toArray, List.getElem_cons_succ, List.getElem_cons_zero]
      go_simp
      have hzd : (wr.drewN 1).heap.size = wr.heap.size := rfl
      have h32 : (B ++ txB p.1).length ≤ 400000000 := by
        have h4 := uv_len10 (n := p.1.length) (by omega)
        simp only [txB, List.length_append]
        omega
      have hn4 : B ++ txB p.1 ++ txB p.2 = B1 ++ (m.take (j + 1)).flatMap prB := by
        rw [HBB.out, List.take_add_one, HP.out]
        simp [prB]
      obtain ⟨B2, hB2⟩ : ∃ x, B ++ txB p.1 = x := ⟨_, rfl⟩
      rw [hB2] at h32 hn4
      obtain ⟨B3, hB3⟩ : ∃ x, B2 ++ txB p.2 = x := ⟨_, rfl⟩
      rw [hB3] at hn4
      have K2 := hide hB2; have K3 := hide hB3; have HN := hide hn4
      clear hB2 hB3 hn4
      refine (text_any (base := base) (bs := B) (s := p.1) (wr.drewN 1) (owns_upd HG.out.own ((Upd.refl [] wr).drewN 1) (by simp)) (by rw [hzd]; omega) (by omega) (by omega)).mono ?_
      rw [K2.out]
      rintro e w3 ⟨v3, rfl, h3⟩
      have g3 := Grew.trans (Grew.upd_nil HG.out ((Upd.refl [] wr).drewN 1)) h3 (by rw [hzd]; omega)
      obtain ⟨a3, c3, rfl, -, -, -⟩ := owns_slice g3.own
      have s3 : StIs w3 b g m := ST2.out.upd g3.upd (fun hm2 => (HB1.out b (by simpa using hm2)).1 rfl) (fun hm2 => (HB1.out g (by simpa using hm2)).2.1 rfl)
      have hz3 := g3.upd.size
      have G3 := hide g3; have S3 := hide s3
      clear h3 g3
      refine hK _ _ (.inr s3) ?_
      clear hK K
      try simp only [Act.put, zz1, zz2, zz3]
      clear s0 s3
      refine wpAnyZ_one 9 (by kernel_rfl) rfl rfl (fun K hK => ?_)
      try simp only [List.getElem_toArray, List.getElem_cons_succ, List.getElem_cons_zero]
      go_simp
      rw [HF.out]
      refine (text_any (base := base) (bs := B2) (s := p.2) w3 G3.out.own (by omega) (by omega) (by omega)).mono ?_
      rw [K3.out]
      rintro e w4 ⟨v4, rfl, h4⟩
      have g4 := Grew.trans G3.out h4 (by omega)
      obtain ⟨a4, c4, rfl, -, -, -⟩ := owns_slice g4.own
      have s4 : StIs w4 b g m := ST2.out.upd g4.upd (fun hm2 => (HB1.out b (by simpa using hm2)).1 rfl) (fun hm2 => (HB1.out g (by simpa using hm2)).2.1 rfl)
      have G4 := hide g4
      clear h4 g4
      refine hK _ _ (.inr s4) ?_
      clear hK K
      try simp only [Act.put, zz1, zz2, zz3]
      refine zE 10 rfl (by kernel_rfl) (fun _ _ _ _ h => h) rfl (by exact s4) ?_
      apply Exists.intro
      refine ⟨fun wx hS => ?_, ?_⟩
      · go_simp; rfl
      simp only [Act.put, zz1, zz2, zz3, zz4, zz5, zz6]
      refine wpAnyZ_done (by kernel_rfl) ?_ _
      clear s4
      go_wp2_with fail
      go_roundw
      case rel => exact ⟨j + 1, _, by omega, by go_num, HN.out, G4.out⟩
      case measure => simp [RowKit.intOf]; omega
    · have d5 : decide ((j : Int) < m.length) = false := by simp; omega
      have d5' : decide (j < m.length) = false := by simpa using hlt
      have hje : m.take j = m := List.take_of_length_le (by omega)
      rw [hje] at HBB
      have hb2 := HBB.out
      subst hb2
      clear hlt hje HBB
      go_wp2_with fail
      go_ret
      exact ⟨_, rfl, Grew.trans G2.out HG.out (by omega)⟩
theorem kput_any {base b g : Nat} {v : Value} {bs : List UInt8} {m : KM} (w : World) (h : StIs w b g m) (hm : KvOk m) (hl : m.length ≤ 1000000) (hv : w.ownsRow base 5 1 v bs.length (bs.map u8v)) (hb : base ≤ w.heap.size) (hbl : bs.length ≤ 100000000)
    (h1 : v.ownBlock ≠ some b) (h2 : v.ownBlock ≠ some g) :
    Calls Tryz.prog 38 #[.pointer (some ⟨b, 0, none⟩), v] w fun e w' => ∃ v', e = .returned v' ∧ Grew w base v (bs ++ kvB m) v' w' := by
  obtain ⟨ao, cap, rfl, -, -, -⟩ := owns_slice hv
  exact kput_of w h hm hl (uint_any (base := base) (n := m.length) _ hv hb (by omega) (by omega)) hb hbl h1 h2
/-- Behind a row that is full and nobody's own. -/
theorem kput_full {b g : Nat} {b0 : Addr} {bs : List UInt8} {m : KM} (w : World) (h : StIs w b g m) (hm : KvOk m) (hl : m.length ≤ 1000000) (hs : SrcAt w (some b0) bs.length bs.length (bs.map u8v) 1) (hbl : bs.length ≤ 100000000)
    (h1 : b0.block ≠ b) (h2 : b0.block ≠ g) :
    Calls Tryz.prog 38 #[.pointer (some ⟨b, 0, none⟩), .slice (some b0) bs.length bs.length] w fun e w' => ∃ v', e = .returned v' ∧ Grew w w.heap.size (.slice (some b0) bs.length bs.length) (bs ++ kvB m) v' w' :=
  kput_of w h hm hl ((uint_full w hs (by omega) (by omega)).mono fun e w' ⟨v', he, ho, hu⟩ => ⟨v', he, ho, hu.mono (by simp), fun g hg => .inr (owns_lt ho g hg).1⟩) (Nat.le_refl _) hbl (by simpa [Value.ownBlock] using h1) (by simpa [Value.ownBlock] using h2)
end Go.Proofs.YthpnnffogbjhpaaGreatDoor.Kv
