/- KvEq, KvES, KvET, KvSa in one text. -/
import Derived.Test.YthpnnffogbjhpaaGreatDoorKvS
import Derived.Test.YthpnnffogbjhpaaGreatDoorGenAll
import Derived.Test.YthpnnffogbjhpaaGreatDoorKvWH
import Derived.Test.YthpnnffogbjhpaaGreatDoorKvN
import Derived.Laws.StructEq
set_option linter.unusedSimpArgs false
set_option linter.unusedVariables false
set_option linter.unnecessarySimpa false
namespace Go.Proofs.YthpnnffogbjhpaaGreatDoor.Kv
open Go.RowKit Go.Lib Go.Proofs.YthpnnffogbjhpaaGreatDoor.Crc Go.Proofs.YthpnnffogbjhpaaGreatDoor.Cm

theorem part_of {t : TypeId} {xs : Array Value} {o : Nat} {v : Value} {w : World} (h : (isAgg t).run Tryz.prog w = .ok false w) (hv : xs[o]? = some v) : (part t xs o).run Tryz.prog w = .ok v w := by
  simp [part, Sem.run_bind, h, hv]
theorem agg_int (t : TypeId) {k : IntKind} (h : Tryz.prog.underlying t = some (.int k)) (w : World) : (isAgg t).run Tryz.prog w = .ok false w := by
  unfold isAgg
  rw [Sem.run_bind, run_underlying h w]
  rfl
theorem agg_str (t : TypeId) (h : Tryz.prog.underlying t = some .string) (w : World) : (isAgg t).run Tryz.prog w = .ok false w := by
  unfold isAgg
  rw [Sem.run_bind, run_underlying h w]
  rfl
theorem flds_re : (Tryz.prog.fieldsOf 39).toList.map (fun f => (f.name == "_", f.type, f.offset)) = [(false, 5, 0), (false, 9, 1)] := by kernel_rfl
theorem eqF_nil (d : Nat) (xs ys : Array Value) (w : World) : (Op.eqFields d xs ys []).run Tryz.prog w = .ok true w := rfl
theorem eqF_cons {d : Nat} {xs ys : Array Value} {f : Field} {fs : List Field} {w : World} {a b : Value} {r : Bool} (hn : (f.name == "_") = false) (ha : (part f.type xs f.offset).run Tryz.prog w = .ok a w) (hb : (part f.type ys f.offset).run Tryz.prog w = .ok b w) (he : (Op.equalIn d f.type a b).run Tryz.prog w = .ok r w) :
    (Op.eqFields d xs ys (f :: fs)).run Tryz.prog w = if r then (Op.eqFields d xs ys fs).run Tryz.prog w else .ok false w := by
  have hn' : f.name ≠ "_" := by simpa using hn
  conv => lhs; unfold Op.eqFields
  rw [if_pos hn']
  simp only [Sem.run_bind, ha, hb, he, Result.andThen_ok]
  cases r <;> rfl
theorem map2 {X Y : Type} {f : X → Y} {l : List X} {a b : Y} (h : l.map f = [a, b]) : ∃ x y, l = [x, y] ∧ f x = a ∧ f y = b := by
  obtain ⟨x, l1, rfl, h1, h2⟩ := List.map_eq_cons_iff.1 h
  obtain ⟨y, l2, rfl, h3, h4⟩ := List.map_eq_cons_iff.1 h2
  obtain rfl := List.map_eq_nil_iff.1 h4
  exact ⟨x, y, rfl, h1, h3⟩
theorem map3 {X Y : Type} {f : X → Y} {l : List X} {a b c : Y} (h : l.map f = [a, b, c]) : ∃ x y z, l = [x, y, z] ∧ f x = a ∧ f y = b ∧ f z = c := by
  obtain ⟨x, l1, rfl, h1, h2⟩ := List.map_eq_cons_iff.1 h
  obtain ⟨y, z, rfl, h3, h4⟩ := map2 h2
  exact ⟨x, y, z, rfl, h1, h3, h4⟩
theorem eq_re (d : Nat) (a b : Int) (s t : List UInt8) (w : World) : (Op.equalIn (d + 2) 39 (.agg #[.int .u8 a, .string (strOf s)]) (.agg #[.int .u8 b, .string (strOf t)])).run Tryz.prog w = .ok (a == b && decide (s = t)) w := by
  rw [run_equalIn_struct w (d + 1) 39 _ _ (by kernel_rfl) (by kernel_rfl)]
  have hf := flds_re
  generalize (Tryz.prog.fieldsOf 39).toList = fs at hf ⊢
  obtain ⟨f, g, rfl, hf1, hg1⟩ := map2 hf
  simp only [Prod.mk.injEq] at hf1 hg1
  obtain ⟨f1, f2, f3⟩ := hf1
  obtain ⟨g1, g2, g3⟩ := hg1
  rw [eqF_cons f1 (by rw [f2, f3]; exact part_of (agg_int _ Tryz.underlying5 w) rfl) (by rw [f2, f3]; exact part_of (agg_int _ Tryz.underlying5 w) rfl) (by rw [f2]; exact run_equalIn_int w d 5 .u8 .u8 a b Tryz.underlying5)]
  rw [eqF_cons g1 (by rw [g2, g3]; exact part_of (agg_str _ Tryz.underlying9 w) rfl) (by rw [g2, g3]; exact part_of (agg_str _ Tryz.underlying9 w) rfl) (by rw [g2]; exact run_equalIn_string w d 9 (strOf s) (strOf t) Tryz.underlying9), eqF_nil, strOf_eq]
  cases (a == b) <;> by_cases h : s = t <;> simp [h]
theorem part_re {xs : Array Value} {x y : Value} {w : World} (h : xs.extract 1 3 = #[x, y]) : (part 39 xs 1).run Tryz.prog w = .ok (.agg #[x, y]) w := by
  have h1 : (isAgg 39).run Tryz.prog w = .ok true w := by kernel_rfl
  simp [part, Sem.run_bind, h1, h]
theorem flds_la : (Tryz.prog.fieldsOf 104).toList.map (fun f => (f.name == "_", f.type, f.offset)) = [(false, 42, 0), (false, 39, 1)] := by kernel_rfl
theorem eq_la (a b : La) (w : World) : (Op.equalIn 10000 104 (lastV a) (lastV b)).run Tryz.prog w = .ok (decide (a = b)) w := by
  unfold lastV
  rw [run_equalIn_struct w 9999 104 _ _ (by kernel_rfl) (by kernel_rfl)]
  have hf := flds_la
  generalize (Tryz.prog.fieldsOf 104).toList = fs at hf ⊢
  obtain ⟨f, k, rfl, hf1, hk1⟩ := map2 hf
  simp only [Prod.mk.injEq] at hf1 hk1
  obtain ⟨f1, f2, f3⟩ := hf1
  obtain ⟨k1, k2, k3⟩ := hk1
  have e1 := run_equalIn_int (P := Tryz.prog) w 9998 42 .u32 .u32 (a.seq : Int) (b.seq : Int) Tryz.underlying42
  have e3 := eq_re 9997 (a.r.code : Int) (b.r.code : Int) a.r.text b.r.text w
  rw [eqF_cons f1 (by rw [f2, f3]; exact part_of (agg_int _ Tryz.underlying42 w) rfl) (by rw [f2, f3]; exact part_of (agg_int _ Tryz.underlying42 w) rfl) (by rw [f2]; exact e1)]
  rw [eqF_cons k1 (by rw [k2, k3]; exact part_re rfl) (by rw [k2, k3]; exact part_re rfl) (by rw [k2]; exact e3), eqF_nil]
  obtain ⟨s1, d1, t1⟩ := a
  obtain ⟨s2, d2, t2⟩ := b
  simp only [La.mk.injEq, Rp.mk.injEq]
  by_cases h2 : s1 = s2 <;> by_cases h3 : d1 = d2 <;> by_cases h4 : t1 = t2 <;> simp [h2, h3, h4] <;> omega
theorem neq_last (a b : La) (w : World) : (binOp .neq 104 (.agg #[.int .u32 (a.seq : Int), .int .u8 (a.r.code : Int), .string (strOf a.r.text)]) (.agg #[.int .u32 (b.seq : Int), .int .u8 (b.r.code : Int), .string (strOf b.r.text)])).run Tryz.prog w = .ok (.bool (!decide (a = b))) w := by
  rw [run_neq_struct]
  have := eq_la a b w
  unfold lastV at this
  rw [this]
  rfl
theorem eq_rp (a b : Rp) (w : World) : (Op.equalIn 10000 39 (.agg #[.int .u8 (a.code : Int), .string (strOf a.text)]) (.agg #[.int .u8 (b.code : Int), .string (strOf b.text)])).run Tryz.prog w = .ok (decide (a = b)) w := by
  have h := eq_re 9998 (a.code : Int) (b.code : Int) a.text b.text w
  rw [h]
  obtain ⟨c1, t1⟩ := a
  obtain ⟨c2, t2⟩ := b
  simp only [Rp.mk.injEq]
  by_cases h3 : c1 = c2 <;> by_cases h4 : t1 = t2 <;> simp [h3, h4] <;> omega
theorem neq_rp (a b : Rp) (w : World) : (binOp .neq 39 (.agg #[.int .u8 (a.code : Int), .string (strOf a.text)]) (.agg #[.int .u8 (b.code : Int), .string (strOf b.text)])).run Tryz.prog w = .ok (.bool (!decide (a = b))) w := by
  rw [run_neq_struct, eq_rp]
  rfl
end Go.Proofs.YthpnnffogbjhpaaGreatDoor.Kv
namespace Go.Proofs.YthpnnffogbjhpaaGreatDoor.Kv
set_option linter.unusedSimpArgs false
set_option linter.unusedVariables false
open Go.RowKit Go.Lib Go.Proofs.YthpnnffogbjhpaaGreatDoor.Crc Go.Proofs.YthpnnffogbjhpaaGreatDoor.Cm

theorem retSE_true {p : Prop} [Decidable p] (h : p) : Ending.returned (.bool true) = .returned (.bool (decide p)) := by rw [decide_eq_true h]
theorem retSE_false {p : Prop} [Decidable p] (h : ¬ p) : Ending.returned (.bool false) = .returned (.bool (decide p)) := by rw [decide_eq_false h]

set_option maxHeartbeats 2000000 in
theorem equalS_any {g1 g2 : Nat} {l m : KM} (w : World) (h1 : kvK.is w g1 l) (h2 : kvK.is w g2 m) (hr : Rise kvK.K l) (hr2 : Rise kvK.K m) (hok : ∀ p ∈ l, kvK.okk p.1) (hl : l.length ≤ 1000000) :
    Calls Tryz.prog 76 #[.map (some g1), .map (some g2)] w fun e w' => e = .returned (.bool (decide (l = m))) ∧ Upd [] w w' := by
  have hl1 := MapKind.is_lt h1
  have hl2 := MapKind.is_lt h2
  have HR := hide hr; have HR2 := hide hr2; have HOK := hide hok; have H2 := hide h2
  have n1 : ∀ ty, (Builtin.len_ #[113] ty #[.map (some g1)]).run Tryz.prog w = .ok (.int .i64 (l.length : Int)) w := fun ty => MapKind.len h1 ty
  have n2 : ∀ ty, (Builtin.len_ #[113] ty #[.map (some g2)]).run Tryz.prog w = .ok (.int .i64 (m.length : Int)) w := fun ty => MapKind.len h2 ty
  clear hr hr2 hok
  go_enter Tryz.func76, Tryz.ntmps76
  by_cases hlm : l.length = m.length
  · have q1 : ((l.length : Int) != (m.length : Int)) = false := by simp; omega
    have q2 : ((l.length : Int) == (m.length : Int)) = true := by simp; omega
    have HLM := hide hlm
    clear hlm h2
    go_wp2_with (first
      | (at_range; refine wpList_range_map (M := kvK) _ rfl _ rfl rfl h1 ?_; intro w0 hrg0 hg0 hs0)
      | go_in)
    go_frame
    go_loopw [16] (fun _ wr => ∃ (left : Lit → Bool) (cnt : Nat), kvK.rng wr g1 w.heap.size l left cnt ∧ (∀ k v, left (kvK.K.lit k) = false → mfind l k = some v → mfind m k = some v) ∧ Upd [] w wr ∧ w.heap.size < wr.heap.size) (fun _ wr => wr.rangeLeft g1 w.heap.size)
    case atStart =>
      refine ⟨_, _, hrg0, fun k v hk hv => ?_, hg0, by omega⟩
      rw [toD_has, hv] at hk
      cases hk
    case round =>
      obtain ⟨left, cnt, hrg, hall, hgw, hzw⟩ := hrel
      have HALL := hide hall; have GW := hide hgw
      clear hall hgw
      go_wp2_with (first
        | (at_next; refine wpList_next_map (M := kvK) _ rfl _ rfl rfl hrg (fun p hp => HOK.out p hp) ?_ ?_)
        | go_in)
      · intro hc0 hl0
        go_wp2
        go_ret
        have e : l = m := rise_eq HR.out HR2.out HLM.out fun k v hv => HALL.out k v (hl0 _) hv
        exact ⟨retSE_true e, GW.out⟩
      · intro k v w1 cnt1 hlk hv hrg1 hlt hu1 hs1 hen
        have hkk : kvK.okk k := HOK.out _ (mfind_mem hv)
        obtain ⟨o, ho⟩ : ∃ o, mfind m k = o := ⟨_, rfl⟩
        have u1 := GW.out.trans_new hu1 (fun g hg => .inr (by simp at hg; omega))
        obtain ⟨wa, hwa, hua, hsa⟩ : ∃ wa, wa = w1 ∧ Upd [] w1 wa ∧ w1.heap.size ≤ wa.heap.size := ⟨_, rfl, Upd.refl _ _, Nat.le_refl _⟩
        have hlo := MapKind.look (MapKind.is_upd_nil H2.out (u1.trans hua)) (k := k) hkk
        rw [ho] at hlo
        have hen' : (Instr.entry (.pointer (some ⟨w.heap.size, 0, none⟩))).run Tryz.prog w1 = .ok (.tuple #[(fun s => Value.string (strOf s)) k, (fun s => Value.string (strOf s)) v]) w1 := hen
        have hv' := HALL
        have HV := hide hv; have HO := hide ho; have RG := hide hrg1; have U1 := hide u1
        have hcnt := MapKind.rng_cnt hrg
        have hza : w1.heap.size = wr.heap.size := hs1
        clear hen hv ho hrg1 u1 hu1 hv'
        cases o with
        | none =>
          have hl' : (Instr.lookup 113 (.map (some g2)) ((fun s => Value.string (strOf s)) k) true).run Tryz.prog wa = .ok (.tuple #[.string (strOf []), .bool false]) wa := hlo
          have UA := hide (U1.out.trans hua)
          clear hlo hrg hua
          subst hwa
          go_wp2_with fail
          go_ret
          have hne : l ≠ m := fun e => by have h1 := HV.out; rw [e, HO.out] at h1; cases h1
          exact ⟨retSE_false hne, UA.out⟩
        | some u =>
          have hl' : (Instr.lookup 113 (.map (some g2)) ((fun s => Value.string (strOf s)) k) true).run Tryz.prog wa = .ok (.tuple #[(fun s => Value.string (strOf s)) u, .bool true]) wa := hlo
          have hrga := MapKind.rng_upd RG.out hua (by simp) (by simp)
          have UA := hide (U1.out.trans hua)
          by_cases hvu : v = u
          · have qe : ((strOf v).toList == (strOf u).toList) = true := by rw [strOf_eq, decide_eq_true hvu]
            have hall2 : ∀ k' v', (fun z => left z && !z.sameKey (kvK.K.lit k)) (kvK.K.lit k') = false → mfind l k' = some v' → mfind m k' = some v' := fun k' v' hk' hv' => by
              simp only [Kys.same] at hk'
              by_cases hkk' : k' = k
              · subst hkk'
                rw [HV.out] at hv'
                cases hv'
                rw [HO.out, hvu]
              · refine HALL.out k' v' ?_ hv'
                simpa [hkk'] using hk'
            have HALL2 := hide hall2
            clear hall2 hlo hrg hua hvu
            subst hwa
            have hrgb := hrga
            have hcnt2 := MapKind.rng_cnt hrgb
            have RGB := hide hrgb
            clear hrga hrgb
            go_wp2_with fail
            go_roundw
            case rel => exact ⟨_, cnt1, RGB.out, HALL2.out, UA.out, by first | omega | (simp; omega)⟩
            case measure => rw [hcnt, hcnt2]; exact hlt
          · have qe : ((strOf v).toList == (strOf u).toList) = false := by rw [strOf_eq, decide_eq_false hvu]
            have hne : l ≠ m := fun e => hvu (by have h1 := HV.out; rw [e, HO.out] at h1; cases h1; rfl)
            have HNE := hide hne
            clear hne hlo hrg hua hvu hrga
            subst hwa
            go_wp2_with fail
            go_ret
            exact ⟨retSE_false HNE.out, UA.out⟩
  · have q1 : ((l.length : Int) != (m.length : Int)) = true := by simp; omega
    have q2 : ((l.length : Int) == (m.length : Int)) = false := by simp; omega
    have HLM := hide hlm
    clear hlm
    go_wp2_with fail
    go_ret
    exact ⟨retSE_false (fun e => HLM.out (by rw [e])), Upd.refl _ _⟩
end Go.Proofs.YthpnnffogbjhpaaGreatDoor.Kv
namespace Go.Proofs.YthpnnffogbjhpaaGreatDoor.Kv
set_option linter.unusedSimpArgs false
set_option linter.unusedVariables false
open Go.RowKit Go.Lib Go.Proofs.YthpnnffogbjhpaaGreatDoor.Crc Go.Proofs.YthpnnffogbjhpaaGreatDoor.Cm

noncomputable def ksameOps : Array Oper := findOps 5 ((Tryz.f47.body).getD .skip)
set_option maxHeartbeats 1000000 in
theorem ksame_any {b1 g1 b2 g2 : Nat} {m1 m2 : KM} (w : World) (h1 : StIs w b1 g1 m1) (h2 : StIs w b2 g2 m2) (hm1 : KvOk m1) (hm2 : KvOk m2) (hl : m1.length ≤ 1000000) :
    Calls Tryz.prog 47 #[.pointer (some ⟨b1, 0, none⟩), .pointer (some ⟨b2, 0, none⟩)] w fun e w' => e = .returned (.bool (decide (m1 = m2))) ∧ Upd [] w w' := by
  have S1 := hide h1; have S2 := hide h2
  clear h1 h2
  go_enter Tryz.func47, Tryz.ntmps47
  go_wp2_with fail
  refine wp_region_seq ksameOps (by kernel_rfl) [8] (Upd [] w) (by kernel_rfl) (by kernel_rfl) (fun _ _ d _ _ h => by cases d <;> exact h) ((Upd.refl _ _).drewN 1) ?_
  refine wpSeq_take (by kernel_rfl) (by kernel_rfl) ?_
  apply Exists.intro
  refine ⟨fun wx hS => ?_, fun a' ha => ?_⟩
  · go_simp; rfl
  simp only [Act.put, List.setIfInBounds_toArray, List.set_cons_succ, List.set_cons_zero] at ha
  subst ha
  refine wpSeq_take (by kernel_rfl) (by kernel_rfl) ?_
  apply Exists.intro
  refine ⟨fun wx hS => ?_, fun a' ha => ?_⟩
  · go_simp; rfl
  simp only [Act.put, List.setIfInBounds_toArray, List.set_cons_succ, List.set_cons_zero] at ha
  subst ha
  refine wpSeq_take (by kernel_rfl) (by kernel_rfl) ?_
  apply Exists.intro
  refine ⟨fun wx hS => ?_, fun a' ha => ?_⟩
  · go_simp; rfl
  simp only [Act.put, List.setIfInBounds_toArray, List.set_cons_succ, List.set_cons_zero] at ha
  subst ha
  refine wpSeq_take (by kernel_rfl) (by kernel_rfl) ?_
  apply Exists.intro
  refine ⟨fun wx hS => ?_, fun a' ha => ?_⟩
  · have c0 : wx.cell? ⟨b1, 0, none⟩ = some (.map (some g1)) := blk_cell (hS.get S1.out.blk (by simp)) rfl; go_simp; rfl
  simp only [Act.put, List.setIfInBounds_toArray, List.set_cons_succ, List.set_cons_zero] at ha
  subst ha
  refine wpSeq_take (by kernel_rfl) (by kernel_rfl) ?_
  apply Exists.intro
  refine ⟨fun wx hS => ?_, fun a' ha => ?_⟩
  · go_simp; rfl
  simp only [Act.put, List.setIfInBounds_toArray, List.set_cons_succ, List.set_cons_zero] at ha
  subst ha
  refine wpSeq_take (by kernel_rfl) (by kernel_rfl) ?_
  apply Exists.intro
  refine ⟨fun wx hS => ?_, fun a' ha => ?_⟩
  · go_simp; rfl
  simp only [Act.put, List.setIfInBounds_toArray, List.set_cons_succ, List.set_cons_zero] at ha
  subst ha
  refine wpSeq_take (by kernel_rfl) (by kernel_rfl) ?_
  apply Exists.intro
  refine ⟨fun wx hS => ?_, fun a' ha => ?_⟩
  · go_simp; rfl
  simp only [Act.put, List.setIfInBounds_toArray, List.set_cons_succ, List.set_cons_zero] at ha
  subst ha
  refine wpSeq_take (by kernel_rfl) (by kernel_rfl) ?_
  apply Exists.intro
  refine ⟨fun wx hS => ?_, fun a' ha => ?_⟩
  · have c0 : wx.cell? ⟨b2, 0, none⟩ = some (.map (some g2)) := blk_cell (hS.get S2.out.blk (by simp)) rfl; go_simp; rfl
  simp only [Act.put, List.setIfInBounds_toArray, List.set_cons_succ, List.set_cons_zero] at ha
  subst ha
  refine wpSeq_one (by kernel_rfl) (by kernel_rfl) (fun K hK => ?_)
  go_simp
  refine (equalS_any (l := m1) (m := m2) (w.drewN 1) (MapKind.is_upd_nil S1.out.map ((Upd.refl [] _).drewN 1)) (MapKind.is_upd_nil S2.out.map ((Upd.refl [] _).drewN 1)) hm1.1 hm2.1 (fun p hp => by have := hm1.2 p hp; exact show p.1.length ≤ maxLen by unfold maxLen; omega) hl).mono ?_
  rintro e w2 ⟨rfl, hu2⟩
  have hd2 : Upd [] w w2 := ((Upd.refl _ _).drewN 1).trans hu2
  have U2 := hide hd2
  clear hu2
  refine hK _ _ (hd2) ?_
  clear hK K
  try simp only [Act.put, List.setIfInBounds_toArray, List.set_cons_succ, List.set_cons_zero]
  clear hd2
  refine wpSeq_take (by kernel_rfl) (by kernel_rfl) ?_
  apply Exists.intro
  refine ⟨fun wx hS => ?_, fun a' ha => ?_⟩
  · go_simp; rfl
  simp only [Act.put, List.setIfInBounds_toArray, List.set_cons_succ, List.set_cons_zero] at ha
  subst ha
  unfold wpSeq
  go_wp2_with fail
  go_ret
  exact ⟨rfl, U2.out⟩
end Go.Proofs.YthpnnffogbjhpaaGreatDoor.Kv
namespace Go.Proofs.YthpnnffogbjhpaaGreatDoor.Kv
set_option linter.unusedSimpArgs false
set_option linter.unusedVariables false
open Go.RowKit Go.Lib Go.Proofs.YthpnnffogbjhpaaGreatDoor.Crc Go.Proofs.YthpnnffogbjhpaaGreatDoor.Cm

theorem retTE_true {p : Prop} [Decidable p] (h : p) : Ending.returned (.bool true) = .returned (.bool (decide p)) := by rw [decide_eq_true h]
theorem retTE_false {p : Prop} [Decidable p] (h : ¬ p) : Ending.returned (.bool false) = .returned (.bool (decide p)) := by rw [decide_eq_false h]

set_option maxHeartbeats 2000000 in
theorem equalT_any {g1 g2 : Nat} {l m : TM} (w : World) (h1 : tbK.is w g1 l) (h2 : tbK.is w g2 m) (hr : Rise tbK.K l) (hr2 : Rise tbK.K m) (hok : ∀ p ∈ l, tbK.okk p.1) (hl : l.length ≤ 1000000) :
    Calls Tryz.prog 77 #[.map (some g1), .map (some g2)] w fun e w' => e = .returned (.bool (decide (l = m))) ∧ Upd [] w w' := by
  have hl1 := MapKind.is_lt h1
  have hl2 := MapKind.is_lt h2
  have HR := hide hr; have HR2 := hide hr2; have HOK := hide hok; have H2 := hide h2
  have n1 : ∀ ty, (Builtin.len_ #[108] ty #[.map (some g1)]).run Tryz.prog w = .ok (.int .i64 (l.length : Int)) w := fun ty => MapKind.len h1 ty
  have n2 : ∀ ty, (Builtin.len_ #[108] ty #[.map (some g2)]).run Tryz.prog w = .ok (.int .i64 (m.length : Int)) w := fun ty => MapKind.len h2 ty
  clear hr hr2 hok
  go_enter Tryz.func77, Tryz.ntmps77
  by_cases hlm : l.length = m.length
  · have q1 : ((l.length : Int) != (m.length : Int)) = false := by simp; omega
    have q2 : ((l.length : Int) == (m.length : Int)) = true := by simp; omega
    have HLM := hide hlm
    clear hlm h2
    go_wp2_with (first
      | (at_range; refine wpList_range_map (M := tbK) _ rfl _ rfl rfl h1 ?_; intro w0 hrg0 hg0 hs0)
      | go_in)
    go_frame
    go_loopw [16] (fun _ wr => ∃ (left : Lit → Bool) (cnt : Nat), tbK.rng wr g1 w.heap.size l left cnt ∧ (∀ k v, left (tbK.K.lit k) = false → mfind l k = some v → mfind m k = some v) ∧ Upd [] w wr ∧ w.heap.size < wr.heap.size) (fun _ wr => wr.rangeLeft g1 w.heap.size)
    case atStart =>
      refine ⟨_, _, hrg0, fun k v hk hv => ?_, hg0, by omega⟩
      rw [toD_has, hv] at hk
      cases hk
    case round =>
      obtain ⟨left, cnt, hrg, hall, hgw, hzw⟩ := hrel
      have HALL := hide hall; have GW := hide hgw
      clear hall hgw
      go_wp2_with (first
        | (at_next; refine wpList_next_map (M := tbK) _ rfl _ rfl rfl hrg (fun p hp => HOK.out p hp) ?_ ?_)
        | go_in)
      · intro hc0 hl0
        go_wp2
        go_ret
        have e : l = m := rise_eq HR.out HR2.out HLM.out fun k v hv => HALL.out k v (hl0 _) hv
        exact ⟨retTE_true e, GW.out⟩
      · intro k v w1 cnt1 hlk hv hrg1 hlt hu1 hs1 hen
        have hkk : tbK.okk k := HOK.out _ (mfind_mem hv)
        obtain ⟨o, ho⟩ : ∃ o, mfind m k = o := ⟨_, rfl⟩
        have u1 := GW.out.trans_new hu1 (fun g hg => .inr (by simp at hg; omega))
        obtain ⟨wa, hwa, hua, hsa⟩ : ∃ wa, wa = w1.alloc (.cells #[.int .u32 (v.seq : Int), .int .u8 (v.r.code : Int), .string (strOf v.r.text)] 104) ∧ Upd [] w1 wa ∧ w1.heap.size ≤ wa.heap.size := ⟨_, rfl, (Upd.refl _ _).alloc _, by simp⟩
        have hlo := MapKind.look (MapKind.is_upd_nil H2.out (u1.trans hua)) (k := k) hkk
        rw [ho] at hlo
        have hen' : (Instr.entry (.pointer (some ⟨w.heap.size, 0, none⟩))).run Tryz.prog w1 = .ok (.tuple #[(fun n : Nat => Value.int .u32 (n : Int)) k, (fun v : La => Value.agg #[.int .u32 (v.seq : Int), .int .u8 (v.r.code : Int), .string (strOf v.r.text)]) v]) w1 := hen
        have hv' := HALL
        have HV := hide hv; have HO := hide ho; have RG := hide hrg1; have U1 := hide u1
        have hcnt := MapKind.rng_cnt hrg
        have hza : w1.heap.size = wr.heap.size := hs1
        clear hen hv ho hrg1 u1 hu1 hv'
        cases o with
        | none =>
          have hl' : (Instr.lookup 108 (.map (some g2)) ((fun n : Nat => Value.int .u32 (n : Int)) k) true).run Tryz.prog wa = .ok (.tuple #[.agg #[.int .u32 0, .int .u8 0, .string (strOf [])], .bool false]) wa := hlo
          have UA := hide (U1.out.trans hua)
          clear hlo hrg hua
          subst hwa
          go_wp2_with fail
          go_ret
          have hne : l ≠ m := fun e => by have h1 := HV.out; rw [e, HO.out] at h1; cases h1
          exact ⟨retTE_false hne, UA.out.alloc _⟩
        | some u =>
          have hl' : (Instr.lookup 108 (.map (some g2)) ((fun n : Nat => Value.int .u32 (n : Int)) k) true).run Tryz.prog wa = .ok (.tuple #[(fun v : La => Value.agg #[.int .u32 (v.seq : Int), .int .u8 (v.r.code : Int), .string (strOf v.r.text)]) u, .bool true]) wa := hlo
          have hrga := MapKind.rng_upd RG.out hua (by simp) (by simp)
          have UA := hide (U1.out.trans hua)
          by_cases hvu : v = u
          · have qe := fun w => neq_last v u w
            rw [decide_eq_true hvu] at qe
            have hall2 : ∀ k' v', (fun z => left z && !z.sameKey (tbK.K.lit k)) (tbK.K.lit k') = false → mfind l k' = some v' → mfind m k' = some v' := fun k' v' hk' hv' => by
              simp only [Kys.same] at hk'
              by_cases hkk' : k' = k
              · subst hkk'
                rw [HV.out] at hv'
                cases hv'
                rw [HO.out, hvu]
              · refine HALL.out k' v' ?_ hv'
                simpa [hkk'] using hk'
            have HALL2 := hide hall2
            clear hall2 hlo hrg hua hvu
            subst hwa
            have hrgb := MapKind.rng_upd hrga ((Upd.refl [] _).alloc (.cells #[.int .u32 (u.seq : Int), .int .u8 (u.r.code : Int), .string (strOf u.r.text)] 104)) (by simp) (by simp)
            have hcnt2 := MapKind.rng_cnt hrgb
            have RGB := hide hrgb
            clear hrga hrgb
            go_wp2_with fail
            go_roundw
            case rel => exact ⟨_, cnt1, RGB.out, HALL2.out, UA.out.alloc _, by first | omega | (simp; omega)⟩
            case measure => rw [hcnt, hcnt2]; exact hlt
          · have qe := fun w => neq_last v u w
            rw [decide_eq_false hvu] at qe
            have hne : l ≠ m := fun e => hvu (by have h1 := HV.out; rw [e, HO.out] at h1; cases h1; rfl)
            have HNE := hide hne
            clear hne hlo hrg hua hvu hrga
            subst hwa
            go_wp2_with fail
            go_ret
            exact ⟨retTE_false HNE.out, UA.out.alloc _⟩
  · have q1 : ((l.length : Int) != (m.length : Int)) = true := by simp; omega
    have q2 : ((l.length : Int) == (m.length : Int)) = false := by simp; omega
    have HLM := hide hlm
    clear hlm
    go_wp2_with fail
    go_ret
    exact ⟨retTE_false (fun e => HLM.out (by rw [e])), Upd.refl _ _⟩
end Go.Proofs.YthpnnffogbjhpaaGreatDoor.Kv
