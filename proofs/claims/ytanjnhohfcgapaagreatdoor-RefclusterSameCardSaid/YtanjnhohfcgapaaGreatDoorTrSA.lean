/- TrS, TrAe, TrAl in one text. -/
import Derived.Test.YtanjnhohfcgapaaGreatDoorTrSc
import Derived.Laws.StructEq
set_option linter.unusedSimpArgs false
set_option linter.unusedVariables false
set_option linter.unnecessarySimpa false
namespace Go.Proofs.YtanjnhohfcgapaaGreatDoor.Tr
open Go.RowKit Go.Proofs.YtanjnhohfcgapaaGreatDoor.Crc Go.Proofs.YtanjnhohfcgapaaGreatDoor.Cm

set_option maxRecDepth 100000 in
set_option maxHeartbeats 4000000 in
theorem rsame_any {T U : Nat → Prop} {va vb : Value} {a b : Cm} (w : World) (ha : CmAt w T va a) (hb : CmAt w U vb b) :
    Calls Tryz.prog 19 #[va, vb] w fun e w' => e = .returned (.bool (decide (a = b))) ∧ Upd [] w w' := by
  obtain ⟨-, ka, rfl, hka⟩ := ha
  obtain ⟨-, kb, rfl, hkb⟩ := hb
  obtain ⟨xa, ca, rfl, h1, h2, hga⟩ := hka.get
  obtain ⟨xb, cb, rfl, k1, k2, hgb⟩ := hkb.get
  have KA := hide hka; have KB := hide hkb; have HGA := hide hga; have HGB := hide hgb
  simp only [maxLen] at h2 k2
  clear hka hkb hga hgb
  unfold cmv
  simp only [strV]
  have hX := blk_alloc (blk_new w (.cells #[.int .u32 (a.client : Int), .int .u32 (a.seq : Int), .int .u8 (a.kind : Int), .slice xa a.keys.length ca, .string (strOf a.old), .string (strOf a.new), .int .i64 a.n] TCmd)) (.cells #[.int .u32 (b.client : Int), .int .u32 (b.seq : Int), .int .u8 (b.kind : Int), .slice xb b.keys.length cb, .string (strOf b.old), .string (strOf b.new), .int .i64 b.n] TCmd)
  have hY := blk_new (w.alloc (.cells #[.int .u32 (a.client : Int), .int .u32 (a.seq : Int), .int .u8 (a.kind : Int), .slice xa a.keys.length ca, .string (strOf a.old), .string (strOf a.new), .int .i64 a.n] TCmd)) (.cells #[.int .u32 (b.client : Int), .int .u32 (b.seq : Int), .int .u8 (b.kind : Int), .slice xb b.keys.length cb, .string (strOf b.old), .string (strOf b.new), .int .i64 b.n] TCmd)
  have hU := ((Upd.refl [] w).alloc (.cells #[.int .u32 (a.client : Int), .int .u32 (a.seq : Int), .int .u8 (a.kind : Int), .slice xa a.keys.length ca, .string (strOf a.old), .string (strOf a.new), .int .i64 a.n] TCmd)).alloc (.cells #[.int .u32 (b.client : Int), .int .u32 (b.seq : Int), .int .u8 (b.kind : Int), .slice xb b.keys.length cb, .string (strOf b.old), .string (strOf b.new), .int .i64 b.n] TCmd)
  rw [World.size_alloc] at hY
  have X := hide hX; have Y := hide hY; have U0 := hide hU
  clear hX hY hU
  go_enter Tryz.func19, Tryz.ntmps19
  by_cases hl : a.keys.length = b.keys.length
  · have q1 : ((a.keys.length : Int) != (b.keys.length : Int)) = false := by simp; omega
    have q2 : ((a.keys.length : Int) == (b.keys.length : Int)) = true := by simp; omega
    have HL := hide hl
    clear hl
    go_wp2_with fail
    generalize hW : (w.alloc (.cells #[.int .u32 (a.client : Int), .int .u32 (a.seq : Int), .int .u8 (a.kind : Int), .slice xa a.keys.length ca, .string (strOf a.old), .string (strOf a.new), .int .i64 a.n] TCmd)).alloc (.cells #[.int .u32 (b.client : Int), .int .u32 (b.seq : Int), .int .u8 (b.kind : Int), .slice xb b.keys.length cb, .string (strOf b.old), .string (strOf b.new), .int .i64 b.n] TCmd) = W at *
    have hsz : w.heap.size ≤ W.heap.size := U0.out.size
    clear hW
    go_loopw [5] (fun si wr => ∃ k : Nat, k ≤ a.keys.length ∧ si = .int .i64 k ∧ Upd [] W wr ∧ ∀ i, i < k → a.keys[i]? = b.keys[i]?) (fun si _ => a.keys.length - (intOf si).toNat)
    case atStart => exact ⟨0, by omega, rfl, Upd.refl _ _, by omega⟩
    case round =>
      obtain ⟨k, hk, rfl, hu, hall⟩ := hrel
      have X2 := hide (hu.get X.out (by simp)); have Y2 := hide (hu.get Y.out (by simp))
      have HU := hide (U0.out.trans hu); have HALL := hide hall; have HUW := hide hu
      clear hu hall
      have x3 : wr.cell? ⟨w.heap.size, 3, none⟩ = some (.slice xa a.keys.length ca) := blk_cell X2.out rfl
      have y3 : wr.cell? ⟨w.heap.size + 1, 3, none⟩ = some (.slice xb b.keys.length cb) := blk_cell Y2.out rfl
      by_cases hlt : k < a.keys.length
      · have d5 : decide ((k : Int) < a.keys.length) = true := by simp; omega
        have d5' : decide (k < a.keys.length) = true := by simpa using hlt
        have hltb : k < b.keys.length := by have := HL.out; omega
        have d6 : decide ((k : Int) < b.keys.length) = true := by simp; omega
        have d6' : decide (k < b.keys.length) = true := by simpa using hltb
        obtain ⟨p, hp⟩ : ∃ p, a.keys[k]? = some p := ⟨_, List.getElem?_eq_getElem hlt⟩
        obtain ⟨q, hq⟩ : ∃ q, b.keys[k]? = some q := ⟨_, List.getElem?_eq_getElem hltb⟩
        obtain ⟨ba, oa, rfl, hba, hca⟩ := HGA.out k p hp
        obtain ⟨bb, ob, rfl, hbb, hcb⟩ := HGB.out k q hq
        have hca' := strs_at (T := T) (v := .slice none 0 0) (l := a.keys) hba HU.out hca
        have hcb' := strs_at (T := T) (v := .slice none 0 0) (l := a.keys) hbb HU.out hcb
        have hs := strOf_eq p q
        by_cases hpq : p = q
        · have hs2 : ((strOf p).toList == (strOf q).toList) = true := by rw [hs]; simpa using hpq
          have hs3 : ((strOf p).toList != (strOf q).toList) = false := by simp [bne, hs2]
          have HP := hide (hp.trans ((congrArg some hpq).trans hq.symm))
          clear hp hq hca hcb hs hpq
          go_wp2_with fail
          go_quiet (fail)
          go_wp2_with fail
          go_roundw
          case rel => exact ⟨k + 1, by omega, by go_num, HUW.out.drewN _, fun i hi => by
            rcases Nat.lt_or_ge i k with h | h
            · exact HALL.out i h
            · rw [show i = k by omega]; exact HP.out⟩
          case measure => simp [intOf]; omega
        · have hs2 : ((strOf p).toList == (strOf q).toList) = false := by rw [hs]; simpa using hpq
          have hs3 : ((strOf p).toList != (strOf q).toList) = true := by simp [bne, hs2]
          have hne : a ≠ b := by
            intro e
            rw [e, hq] at hp
            cases hp
            exact hpq rfl
          have HNE := hide hne
          clear hp hq hca hcb hs hpq hne
          go_wp2_with fail
          go_quiet (fail)
          go_wp2_with fail
          go_ret
          exact ⟨by simp [HNE.out], HU.out.drewN _⟩
      · have d5 : decide ((k : Int) < a.keys.length) = false := by simp; omega
        have d5' : decide (k < a.keys.length) = false := by simpa using hlt
        have he : a.keys = b.keys := eq_of_all HL.out fun i hi => HALL.out i (by omega)
        have Hkeys := hide he
        clear he
        have x0 : wr.cell? ⟨w.heap.size, 0, none⟩ = some (.int .u32 (a.client : Int)) := blk_cell X2.out rfl
        have x1 : wr.cell? ⟨w.heap.size, 1, none⟩ = some (.int .u32 (a.seq : Int)) := blk_cell X2.out rfl
        have x2 : wr.cell? ⟨w.heap.size, 2, none⟩ = some (.int .u8 (a.kind : Int)) := blk_cell X2.out rfl
        have x4 : wr.cell? ⟨w.heap.size, 4, none⟩ = some (.string (strOf a.old)) := blk_cell X2.out rfl
        have x5 : wr.cell? ⟨w.heap.size, 5, none⟩ = some (.string (strOf a.new)) := blk_cell X2.out rfl
        have x6 : wr.cell? ⟨w.heap.size, 6, none⟩ = some (.int .i64 a.n) := blk_cell X2.out rfl
        have y0 : wr.cell? ⟨w.heap.size + 1, 0, none⟩ = some (.int .u32 (b.client : Int)) := blk_cell Y2.out rfl
        have y1 : wr.cell? ⟨w.heap.size + 1, 1, none⟩ = some (.int .u32 (b.seq : Int)) := blk_cell Y2.out rfl
        have y2 : wr.cell? ⟨w.heap.size + 1, 2, none⟩ = some (.int .u8 (b.kind : Int)) := blk_cell Y2.out rfl
        have y4 : wr.cell? ⟨w.heap.size + 1, 4, none⟩ = some (.string (strOf b.old)) := blk_cell Y2.out rfl
        have y5 : wr.cell? ⟨w.heap.size + 1, 5, none⟩ = some (.string (strOf b.new)) := blk_cell Y2.out rfl
        have y6 : wr.cell? ⟨w.heap.size + 1, 6, none⟩ = some (.int .i64 b.n) := blk_cell Y2.out rfl
        by_cases hclient : a.client = b.client
        · have qclient : ((a.client : Int) == (b.client : Int)) = true := by simp; omega
          have Hclient := hide hclient
          clear hclient
          by_cases hseq : a.seq = b.seq
          · have qseq : ((a.seq : Int) == (b.seq : Int)) = true := by simp; omega
            have Hseq := hide hseq
            clear hseq
            by_cases hkind : a.kind = b.kind
            · have qkind : ((a.kind : Int) == (b.kind : Int)) = true := by simp; omega
              have Hkind := hide hkind
              clear hkind
              by_cases hold : a.old = b.old
              · have qold : ((strOf a.old).toList == (strOf b.old).toList) = true := by rw [strOf_eq]; simpa using hold
                have Hold := hide hold
                clear hold
                by_cases hnew : a.new = b.new
                · have qnew : ((strOf a.new).toList == (strOf b.new).toList) = true := by rw [strOf_eq]; simpa using hnew
                  have Hnew := hide hnew
                  clear hnew
                  by_cases hn : a.n = b.n
                  · have qn : (a.n == b.n) = true := by simpa using hn
                    have Hn := hide hn
                    clear hn
                    go_wp2_with fail
                    go_ret
                    have he : a = b := by cases a; cases b; simp only [Cm.mk.injEq]; exact ⟨Hclient.out, Hseq.out, Hkind.out, Hkeys.out, Hold.out, Hnew.out, Hn.out⟩
                    exact ⟨by simp [he], HU.out⟩
                  · have qn : (a.n == b.n) = false := by simpa using hn
                    have Hn := hide hn
                    clear hn
                    go_wp2_with fail
                    go_ret
                    have hne : a ≠ b := fun e => Hn.out (by rw [e])
                    exact ⟨by simp [hne], HU.out⟩
                · have qnew : ((strOf a.new).toList == (strOf b.new).toList) = false := by rw [strOf_eq]; simpa using hnew
                  have Hnew := hide hnew
                  clear hnew
                  go_wp2_with fail
                  go_ret
                  have hne : a ≠ b := fun e => Hnew.out (by rw [e])
                  exact ⟨by simp [hne], HU.out⟩
              · have qold : ((strOf a.old).toList == (strOf b.old).toList) = false := by rw [strOf_eq]; simpa using hold
                have Hold := hide hold
                clear hold
                go_wp2_with fail
                go_ret
                have hne : a ≠ b := fun e => Hold.out (by rw [e])
                exact ⟨by simp [hne], HU.out⟩
            · have qkind : ((a.kind : Int) == (b.kind : Int)) = false := by simp; omega
              have Hkind := hide hkind
              clear hkind
              go_wp2_with fail
              go_ret
              have hne : a ≠ b := fun e => Hkind.out (by rw [e])
              exact ⟨by simp [hne], HU.out⟩
          · have qseq : ((a.seq : Int) == (b.seq : Int)) = false := by simp; omega
            have Hseq := hide hseq
            clear hseq
            go_wp2_with fail
            go_ret
            have hne : a ≠ b := fun e => Hseq.out (by rw [e])
            exact ⟨by simp [hne], HU.out⟩
        · have qclient : ((a.client : Int) == (b.client : Int)) = false := by simp; omega
          have Hclient := hide hclient
          clear hclient
          go_wp2_with fail
          go_ret
          have hne : a ≠ b := fun e => Hclient.out (by rw [e])
          exact ⟨by simp [hne], HU.out⟩
  · have q1 : ((a.keys.length : Int) != (b.keys.length : Int)) = true := by simp; omega
    have q2 : ((a.keys.length : Int) == (b.keys.length : Int)) = false := by simp; omega
    have HL := hide hl
    clear hl
    go_wp2_with fail
    go_ret
    have hne : a ≠ b := fun e => HL.out (by rw [e])
    exact ⟨by simp [hne], U0.out⟩
end Go.Proofs.YtanjnhohfcgapaaGreatDoor.Tr
namespace Go.Proofs.YtanjnhohfcgapaaGreatDoor.Tr
open Go.RowKit Go.Proofs.YtanjnhohfcgapaaGreatDoor.Crc Go.Proofs.YtanjnhohfcgapaaGreatDoor.Cm

def anv (a : An) : Value := .agg #[.int .u32 (a.client : Int), .int .u32 (a.seq : Int), .int .u8 (a.code : Int), .string (strOf a.text)]
theorem part_of {t : TypeId} {xs : Array Value} {o : Nat} {v : Value} {w : World} (h : (isAgg t).run Tryz.prog w = .ok false w) (hv : xs[o]? = some v) : (part t xs o).run Tryz.prog w = .ok v w := by
  simp [part, Sem.run_bind, h, hv]
theorem agg_int (t : TypeId) {k : IntKind} (h : Tryz.prog.underlying t = some (.int k)) (w : World) : (isAgg t).run Tryz.prog w = .ok false w := by
  unfold isAgg
  rw [Sem.run_bind, run_underlying h w]
  rfl
theorem agg_str (t : TypeId) (h : Tryz.prog.underlying t = some .string) (w : World) : (isAgg t).run Tryz.prog w = .ok false w := by
  unfold isAgg
  rw [Sem.run_bind, run_underlying h w]
  rfl
theorem flds_an : (Tryz.prog.fieldsOf 117).toList.map (fun f => (f.name == "_", f.type, f.offset)) = [(false, 40, 0), (false, 40, 1), (false, 113, 2)] := by kernel_rfl
theorem flds_re : (Tryz.prog.fieldsOf 113).toList.map (fun f => (f.name == "_", f.type, f.offset)) = [(false, 5, 0), (false, 9, 1)] := by kernel_rfl
theorem eqF_nil (d : Nat) (xs ys : Array Value) (w : World) : (Op.eqFields d xs ys []).run Tryz.prog w = .ok true w := rfl
theorem eqF_cons {d : Nat} {xs ys : Array Value} {f : Field} {fs : List Field} {w : World} {a b : Value} {r : Bool} (hn : (f.name == "_") = false) (ha : (part f.type xs f.offset).run Tryz.prog w = .ok a w) (hb : (part f.type ys f.offset).run Tryz.prog w = .ok b w) (he : (Op.equalIn d f.type a b).run Tryz.prog w = .ok r w) :
    (Op.eqFields d xs ys (f :: fs)).run Tryz.prog w = if r then (Op.eqFields d xs ys fs).run Tryz.prog w else .ok false w := by
  have hn' : f.name ≠ "_" := by simpa using hn
  conv => lhs; unfold Op.eqFields
  rw [if_pos hn']
  simp only [Sem.run_bind, ha, hb, he, Result.andThen_ok]
  cases r <;> rfl
theorem map2 {X Y : Type} {f : X → Y} {l : List X} {a b : Y} (h : l.map f = [a, b]) : ∃ x y, l = [x, y] ∧ f x = a ∧ f y = b := by
  obtain ⟨x, l1, rfl, h1, h2⟩ := List.map_eq_cons_iff.1 h
  obtain ⟨y, l2, rfl, h3, h4⟩ := List.map_eq_cons_iff.1 h2
  obtain rfl := List.map_eq_nil_iff.1 h4
  exact ⟨x, y, rfl, h1, h3⟩
theorem map3 {X Y : Type} {f : X → Y} {l : List X} {a b c : Y} (h : l.map f = [a, b, c]) : ∃ x y z, l = [x, y, z] ∧ f x = a ∧ f y = b ∧ f z = c := by
  obtain ⟨x, l1, rfl, h1, h2⟩ := List.map_eq_cons_iff.1 h
  obtain ⟨y, z, rfl, h3, h4⟩ := map2 h2
  exact ⟨x, y, z, rfl, h1, h3, h4⟩
theorem eq_re (d : Nat) (a b : Int) (s t : List UInt8) (w : World) : (Op.equalIn (d + 2) 113 (.agg #[.int .u8 a, .string (strOf s)]) (.agg #[.int .u8 b, .string (strOf t)])).run Tryz.prog w = .ok (a == b && decide (s = t)) w := by
  rw [run_equalIn_struct w (d + 1) 113 _ _ (by kernel_rfl) (by kernel_rfl)]
  have hf := flds_re
  generalize (Tryz.prog.fieldsOf 113).toList = fs at hf ⊢
  obtain ⟨f, g, rfl, hf1, hg1⟩ := map2 hf
  simp only [Prod.mk.injEq] at hf1 hg1
  obtain ⟨f1, f2, f3⟩ := hf1
  obtain ⟨g1, g2, g3⟩ := hg1
  rw [eqF_cons f1 (by rw [f2, f3]; exact part_of (agg_int _ Tryz.underlying5 w) rfl) (by rw [f2, f3]; exact part_of (agg_int _ Tryz.underlying5 w) rfl) (by rw [f2]; exact run_equalIn_int w d 5 .u8 .u8 a b Tryz.underlying5)]
  rw [eqF_cons g1 (by rw [g2, g3]; exact part_of (agg_str _ Tryz.underlying9 w) rfl) (by rw [g2, g3]; exact part_of (agg_str _ Tryz.underlying9 w) rfl) (by rw [g2]; exact run_equalIn_string w d 9 (strOf s) (strOf t) Tryz.underlying9), eqF_nil, strOf_eq]
  cases (a == b) <;> by_cases h : s = t <;> simp [h]
theorem part_re {xs : Array Value} {x y : Value} {w : World} (h : xs.extract 2 4 = #[x, y]) : (part 113 xs 2).run Tryz.prog w = .ok (.agg #[x, y]) w := by
  have h1 : (isAgg 113).run Tryz.prog w = .ok true w := by kernel_rfl
  simp [part, Sem.run_bind, h1, h]
theorem eq_an (a b : An) (w : World) : (Op.equalIn 10000 117 (anv a) (anv b)).run Tryz.prog w = .ok (decide (a = b)) w := by
  unfold anv
  rw [run_equalIn_struct w 9999 117 _ _ (by kernel_rfl) (by kernel_rfl)]
  have hf := flds_an
  generalize (Tryz.prog.fieldsOf 117).toList = fs at hf ⊢
  obtain ⟨f, g, k, rfl, hf1, hg1, hk1⟩ := map3 hf
  simp only [Prod.mk.injEq] at hf1 hg1 hk1
  obtain ⟨f1, f2, f3⟩ := hf1
  obtain ⟨g1, g2, g3⟩ := hg1
  obtain ⟨k1, k2, k3⟩ := hk1
  have e1 := run_equalIn_int (P := Tryz.prog) w 9998 40 .u32 .u32 (a.client : Int) (b.client : Int) Tryz.underlying40
  have e2 := run_equalIn_int (P := Tryz.prog) w 9998 40 .u32 .u32 (a.seq : Int) (b.seq : Int) Tryz.underlying40
  have e3 := eq_re 9997 (a.code : Int) (b.code : Int) a.text b.text w
  rw [eqF_cons f1 (by rw [f2, f3]; exact part_of (agg_int _ Tryz.underlying40 w) rfl) (by rw [f2, f3]; exact part_of (agg_int _ Tryz.underlying40 w) rfl) (by rw [f2]; exact e1)]
  rw [eqF_cons g1 (by rw [g2, g3]; exact part_of (agg_int _ Tryz.underlying40 w) rfl) (by rw [g2, g3]; exact part_of (agg_int _ Tryz.underlying40 w) rfl) (by rw [g2]; exact e2)]
  rw [eqF_cons k1 (by rw [k2, k3]; exact part_re rfl) (by rw [k2, k3]; exact part_re rfl) (by rw [k2]; exact e3), eqF_nil]
  obtain ⟨c1, s1, d1, t1⟩ := a
  obtain ⟨c2, s2, d2, t2⟩ := b
  simp only [An.mk.injEq]
  by_cases h1 : c1 = c2 <;> by_cases h2 : s1 = s2 <;> by_cases h3 : d1 = d2 <;> by_cases h4 : t1 = t2 <;> simp [h1, h2, h3, h4] <;> omega
theorem neq_an (a b : An) (w : World) : (binOp .neq 117 (.agg #[.int .u32 (a.client : Int), .int .u32 (a.seq : Int), .int .u8 (a.code : Int), .string (strOf a.text)]) (.agg #[.int .u32 (b.client : Int), .int .u32 (b.seq : Int), .int .u8 (b.code : Int), .string (strOf b.text)])).run Tryz.prog w = .ok (.bool (!decide (a = b))) w := by
  rw [run_neq_struct]
  have := eq_an a b w
  unfold anv at this
  rw [this]
  rfl
/-- A command's cells. -/
def Cells7 (w : World) (b o : Nat) (c : Cm) (x : Option Addr) (n : Nat) : Prop :=
  w.cell? ⟨b, o, none⟩ = some (.int .u32 (c.client : Int)) ∧ w.cell? ⟨b, o + 1, none⟩ = some (.int .u32 (c.seq : Int)) ∧ w.cell? ⟨b, o + 2, none⟩ = some (.int .u8 (c.kind : Int)) ∧ w.cell? ⟨b, o + 3, none⟩ = some (.slice x c.keys.length n) ∧
    w.cell? ⟨b, o + 4, none⟩ = some (.string (strOf c.old)) ∧ w.cell? ⟨b, o + 5, none⟩ = some (.string (strOf c.new)) ∧ w.cell? ⟨b, o + 6, none⟩ = some (.int .i64 c.n)
theorem Cells7.upd {w w' : World} {b o : Nat} {c : Cm} {x : Option Addr} {n : Nat} {S : List Nat} (h : Cells7 w b o c x n) (hu : Upd S w w') (hb : b < w.heap.size) (hS : b ∉ S) : Cells7 w' b o c x n := by
  have hk : ∀ i u, w.cell? ⟨b, i, none⟩ = some u → w'.cell? ⟨b, i, none⟩ = some u := fun i u hi => by
    rw [← hi]; have := hu.block b hb hS; simp only [World.cell?, this]
  obtain ⟨h0, h1, h2, h3, h4, h5, h6⟩ := h
  exact ⟨hk _ _ h0, hk _ _ h1, hk _ _ h2, hk _ _ h3, hk _ _ h4, hk _ _ h5, hk _ _ h6⟩
/-- A row's command. -/
theorem cm_get {w : World} {T : Nat → Prop} {v : Value} {l : List Cm} (h : cmK.row w T v l) : ∃ (xo : Option Addr) (c : Nat), v = .slice xo l.length c ∧ l.length ≤ c ∧ c ≤ maxLen ∧
    ∀ i c, l[i]? = some c → ∃ b off ka kc, xo = some ⟨b, off, none⟩ ∧ b < w.heap.size ∧ T b ∧ c.Fits ∧ Strs w T (.slice ka c.keys.length kc) c.keys ∧ Cells7 w b (off + i * 7) c ka kc := by
  obtain ⟨xo, c, rfl, h1, h2, hg⟩ := Row.get cmK.hz h
  refine ⟨xo, c, rfl, h1, h2, fun i c hi => ?_⟩
  obtain ⟨b, off, cs, rfl, hb, hT, ⟨fit, ks, rfl, hks⟩, -, hcell⟩ := hg i c hi
  obtain ⟨ka, kc, rfl, -, -, -⟩ := hks.get
  have cc : ∀ j u, (cmc c (.slice ka c.keys.length kc))[j]? = some u → w.cell? ⟨b, off + i * 7 + j, none⟩ = some u := fun j u hj => hcell j u hj
  exact ⟨b, off, ka, kc, rfl, hb, hT, fit, hks, cc 0 _ rfl, cc 1 _ rfl, cc 2 _ rfl, cc 3 _ rfl, cc 4 _ rfl, cc 5 _ rfl, cc 6 _ rfl⟩
def Cells4 (w : World) (b o : Nat) (a : An) : Prop :=
  w.cell? ⟨b, o, none⟩ = some (.int .u32 (a.client : Int)) ∧ w.cell? ⟨b, o + 1, none⟩ = some (.int .u32 (a.seq : Int)) ∧ w.cell? ⟨b, o + 2, none⟩ = some (.int .u8 (a.code : Int)) ∧ w.cell? ⟨b, o + 3, none⟩ = some (.string (strOf a.text))
theorem Cells4.upd {w w' : World} {b o : Nat} {a : An} {S : List Nat} (h : Cells4 w b o a) (hu : Upd S w w') (hb : b < w.heap.size) (hS : b ∉ S) : Cells4 w' b o a := by
  have hk : ∀ i u, w.cell? ⟨b, i, none⟩ = some u → w'.cell? ⟨b, i, none⟩ = some u := fun i u hi => by
    rw [← hi]; have := hu.block b hb hS; simp only [World.cell?, this]
  obtain ⟨h0, h1, h2, h3⟩ := h
  exact ⟨hk _ _ h0, hk _ _ h1, hk _ _ h2, hk _ _ h3⟩
theorem an_get {w : World} {T : Nat → Prop} {v : Value} {l : List An} (h : anK.row w T v l) : ∃ (xo : Option Addr) (c : Nat), v = .slice xo l.length c ∧ l.length ≤ c ∧ c ≤ maxLen ∧
    ∀ i a, l[i]? = some a → ∃ b off, xo = some ⟨b, off, none⟩ ∧ b < w.heap.size ∧ T b ∧ Cells4 w b (off + i * 4) a := by
  obtain ⟨xo, c, rfl, h1, h2, hg⟩ := Row.get anK.hz h
  refine ⟨xo, c, rfl, h1, h2, fun i a hi => ?_⟩
  obtain ⟨b, off, cs, rfl, hb, hT, ⟨fit, rfl⟩, -, hcell⟩ := hg i a hi
  have cc : ∀ j u, (anc a)[j]? = some u → w.cell? ⟨b, off + i * 4 + j, none⟩ = some u := fun j u hj => hcell j u hj
  exact ⟨b, off, rfl, hb, hT, cc 0 _ rfl, cc 1 _ rfl, cc 2 _ rfl, cc 3 _ rfl⟩
end Go.Proofs.YtanjnhohfcgapaaGreatDoor.Tr
namespace Go.Proofs.YtanjnhohfcgapaaGreatDoor.Tr
open Go.RowKit Go.Proofs.YtanjnhohfcgapaaGreatDoor.Crc Go.Proofs.YtanjnhohfcgapaaGreatDoor.Cm

set_option maxRecDepth 100000 in
set_option maxHeartbeats 4000000 in
theorem all_any {T U : Nat → Prop} {va vb : Value} {a b : List Cm} (w : World) (ha : cmK.row w T va a) (hb : cmK.row w U vb b) :
    Calls Tryz.prog 23 #[va, vb] w fun e w' => e = .returned (.bool (decide (a = b))) ∧ Upd [] w w' := by
  obtain ⟨xo, c, rfl, h1, h2, hga⟩ := cm_get ha
  obtain ⟨yo, d, rfl, k1, k2, hgb⟩ := cm_get hb
  have HGA := hide hga; have HGB := hide hgb
  simp only [maxLen] at h2 k2
  clear ha hb hga hgb
  go_enter Tryz.func23, Tryz.ntmps23
  by_cases hl : a.length = b.length
  · have q1 : ((a.length : Int) != (b.length : Int)) = false := by simp; omega
    have q2 : ((a.length : Int) == (b.length : Int)) = true := by simp; omega
    have HL := hide hl
    clear hl
    go_wp2_with fail
    go_loopw [5] (fun si wr => ∃ k : Nat, k ≤ a.length ∧ si = .int .i64 k ∧ Upd [] w wr ∧ ∀ i, i < k → a[i]? = b[i]?) (fun si _ => a.length - (intOf si).toNat)
    case atStart => exact ⟨0, by omega, rfl, Upd.refl _ _, by omega⟩
    case round =>
      obtain ⟨k, hk, rfl, hu, hall⟩ := hrel
      have HU := hide hu; have HALL := hide hall
      clear hu hall
      by_cases hlt : k < a.length
      · have d5 : decide ((k : Int) < a.length) = true := by simp; omega
        have d5' : decide (k < a.length) = true := by simpa using hlt
        have hltb : k < b.length := by have := HL.out; omega
        have d6 : decide ((k : Int) < b.length) = true := by simp; omega
        have d6' : decide (k < b.length) = true := by simpa using hltb
        obtain ⟨p, hp⟩ : ∃ p, a[k]? = some p := ⟨_, List.getElem?_eq_getElem hlt⟩
        obtain ⟨q, hq⟩ : ∃ q, b[k]? = some q := ⟨_, List.getElem?_eq_getElem hltb⟩
        obtain ⟨ba, oa, xa, ca, rfl, hba, -, fa, ksa, hca⟩ := HGA.out k p hp
        obtain ⟨bb, ob, xb, cb, rfl, hbb, -, fb, ksb, hcb⟩ := HGB.out k q hq
        have hS := And.intro (hca.upd (HU.out.drewN 1) hba (by simp)) (hcb.upd (HU.out.drewN 1) hbb (by simp))
        have KSA := hide (ksa.upd_nil (HU.out.drewN 1)); have KSB := hide (ksb.upd_nil (HU.out.drewN 1)); have FA := hide fa; have FB := hide fb; have HS := hide hS
        clear hca hcb ksa ksb fa fb hS
        go_wp2_with fail
        refine wp_region_z (fun w' => Cells7 w' ba (oa + k * 7) p xa ca ∧ Cells7 w' bb (ob + k * 7) q xb cb) 99 (by kernel_rfl) ?_
        refine zE 0 rfl (by kernel_rfl) (fun _ _ _ _ h => h) rfl (by exact HS.out) ?_
        apply Exists.intro
        refine ⟨fun wx hS => ?_, ?_⟩
        · obtain ⟨⟨s0, s1, s2, s3, s4, s5, s6⟩, ⟨r0, r1, r2, r3, r4, r5, r6⟩⟩ := hS; go_simp; rfl
        simp only [Act.put, List.setIfInBounds_toArray, List.set_cons_succ, List.set_cons_zero, List.getElem_toArray, List.getElem_cons_zero]
        refine zE 1 rfl (by kernel_rfl) (fun _ _ _ _ h => h) rfl (by exact HS.out) ?_
        apply Exists.intro
        refine ⟨fun wx hS => ?_, ?_⟩
        · obtain ⟨⟨s0, s1, s2, s3, s4, s5, s6⟩, ⟨r0, r1, r2, r3, r4, r5, r6⟩⟩ := hS; go_simp; rfl
        simp only [Act.put, zz1, zz2, zz3, zz4, zz5, zz6]
        refine zE 2 rfl (by kernel_rfl) (fun _ _ _ _ h => h) rfl (by exact HS.out) ?_
        apply Exists.intro
        refine ⟨fun wx hS => ?_, ?_⟩
        · obtain ⟨⟨s0, s1, s2, s3, s4, s5, s6⟩, ⟨r0, r1, r2, r3, r4, r5, r6⟩⟩ := hS; go_simp; rfl
        simp only [Act.put, zz1, zz2, zz3, zz4, zz5, zz6]
        refine zE 3 rfl (by kernel_rfl) (fun _ _ _ _ h => h) rfl (by exact HS.out) ?_
        apply Exists.intro
        refine ⟨fun wx hS => ?_, ?_⟩
        · obtain ⟨⟨s0, s1, s2, s3, s4, s5, s6⟩, ⟨r0, r1, r2, r3, r4, r5, r6⟩⟩ := hS; go_simp; rfl
        simp only [Act.put, zz1, zz2, zz3, zz4, zz5, zz6]
        refine zE 4 rfl (by kernel_rfl) (fun _ _ _ _ h => h) rfl (by exact HS.out) ?_
        apply Exists.intro
        refine ⟨fun wx hS => ?_, ?_⟩
        · obtain ⟨⟨s0, s1, s2, s3, s4, s5, s6⟩, ⟨r0, r1, r2, r3, r4, r5, r6⟩⟩ := hS; go_simp; rfl
        simp only [Act.put, zz1, zz2, zz3, zz4, zz5, zz6]
        refine zE 5 rfl (by kernel_rfl) (fun _ _ _ _ h => h) rfl (by exact HS.out) ?_
        apply Exists.intro
        refine ⟨fun wx hS => ?_, ?_⟩
        · obtain ⟨⟨s0, s1, s2, s3, s4, s5, s6⟩, ⟨r0, r1, r2, r3, r4, r5, r6⟩⟩ := hS; go_simp; rfl
        simp only [Act.put, zz1, zz2, zz3, zz4, zz5, zz6]
        refine zE 6 rfl (by kernel_rfl) (fun _ _ _ _ h => h) rfl (by exact HS.out) ?_
        apply Exists.intro
        refine ⟨fun wx hS => ?_, ?_⟩
        · obtain ⟨⟨s0, s1, s2, s3, s4, s5, s6⟩, ⟨r0, r1, r2, r3, r4, r5, r6⟩⟩ := hS; go_simp; rfl
        simp only [Act.put, zz1, zz2, zz3, zz4, zz5, zz6]
        refine zE 7 rfl (by kernel_rfl) (fun _ _ _ _ h => h) rfl (by exact HS.out) ?_
        apply Exists.intro
        refine ⟨fun wx hS => ?_, ?_⟩
        · obtain ⟨⟨s0, s1, s2, s3, s4, s5, s6⟩, ⟨r0, r1, r2, r3, r4, r5, r6⟩⟩ := hS; go_simp; rfl
        simp only [Act.put, zz1, zz2, zz3, zz4, zz5, zz6]
        refine wpAnyZ_one 8 (by kernel_rfl) rfl rfl (fun K hK => ?_)
        try simp only [List.getElem_toArray, List.getElem_cons_succ, List.getElem_cons_zero]
        go_simp
        refine (rsame_any (a := p) (b := q) _ ⟨FA.out, _, rfl, KSA.out⟩ ⟨FB.out, _, rfl, KSB.out⟩).mono ?_
        rintro e w2 ⟨rfl, hu2⟩
        have HU2 := hide ((HU.out.drewN 1).trans hu2)
        have hs2 := And.intro (HS.out.1.upd hu2 (by have : (wr.drewN 1).heap.size = wr.heap.size := rfl; have := HU.out.size; omega) (by simp)) (HS.out.2.upd hu2 (by have : (wr.drewN 1).heap.size = wr.heap.size := rfl; have := HU.out.size; omega) (by simp))
        clear hu2
        by_cases hpq : p = q
        · have HP := hide (hp.trans ((congrArg some hpq).trans hq.symm))
          rw [decide_eq_true hpq]
          clear hp hq hpq
          refine hK _ _ (.inr hs2) ?_
          clear hK K
          try simp only [Act.put, zz1, zz2, zz3]
          refine wpAnyZ_one 9 (by kernel_rfl) rfl rfl (fun K hK => ?_)
          try simp only [List.getElem_toArray, List.getElem_cons_succ, List.getElem_cons_zero]
          go_simp
          refine hK _ _ (.inr hs2) ?_
          clear hK K
          try simp only [Act.put, zz1, zz2, zz3]
          refine wpAnyZ_done (by kernel_rfl) ?_ _
          go_wp2_with fail
          go_roundw
          case rel => exact ⟨k + 1, by omega, by go_num, HU2.out, fun i hi => by
            rcases Nat.lt_or_ge i k with h | h
            · exact HALL.out i h
            · rw [show i = k by omega]; exact HP.out⟩
          case measure => simp [intOf]; omega
        · rw [decide_eq_false hpq]
          have hne : a ≠ b := by
            intro e
            rw [e, hq] at hp
            cases hp
            exact hpq rfl
          have HNE := hide hne
          clear hp hq hpq hne
          refine hK _ _ (.inr hs2) ?_
          clear hK K
          try simp only [Act.put, zz1, zz2, zz3]
          refine wpAnyZ_one 9 (by kernel_rfl) rfl rfl (fun K hK => ?_)
          try simp only [List.getElem_toArray, List.getElem_cons_succ, List.getElem_cons_zero]
          go_simp
          refine hK _ _ (.inr hs2) ?_
          clear hK K
          try simp only [Act.put, zz1, zz2, zz3]
          refine wpAnyZ_done (by kernel_rfl) ?_ _
          go_wp2_with fail
          go_ret
          exact ⟨by simp [HNE.out], HU2.out⟩
      · have d5 : decide ((k : Int) < a.length) = false := by simp; omega
        have d5' : decide (k < a.length) = false := by simpa using hlt
        have he : a = b := eq_of_all HL.out fun i hi => HALL.out i (by omega)
        have HE := hide he
        clear he
        go_wp2_with fail
        go_ret
        exact ⟨by simp [HE.out], HU.out⟩
  · have q1 : ((a.length : Int) != (b.length : Int)) = true := by simp; omega
    have q2 : ((a.length : Int) == (b.length : Int)) = false := by simp; omega
    have HL := hide hl
    clear hl
    go_wp2_with fail
    go_ret
    have hne : a ≠ b := fun e => HL.out (by rw [e])
    exact ⟨by simp [hne], Upd.refl _ _⟩
end Go.Proofs.YtanjnhohfcgapaaGreatDoor.Tr
