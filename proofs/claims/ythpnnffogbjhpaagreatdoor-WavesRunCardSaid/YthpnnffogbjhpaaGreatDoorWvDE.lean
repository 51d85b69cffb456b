/- WvD, WvEd in one text. -/
import Derived.Test.YthpnnffogbjhpaaGreatDoorKvPure
import Derived.Test.YthpnnffogbjhpaaGreatDoorKvWH
import Derived.Test.YthpnnffogbjhpaaGreatDoorGenAll
import Derived.Test.YthpnnffogbjhpaaGreatDoorKvEE
import Derived.Test.YthpnnffogbjhpaaGreatDoorKvR
import Derived.Test.YthpnnffogbjhpaaGreatDoorKvQD
import Derived.Laws.Small
set_option linter.unusedSimpArgs false
set_option linter.unusedVariables false
set_option linter.unnecessarySimpa false
namespace Go.Proofs.YthpnnffogbjhpaaGreatDoor.Kv
set_option linter.unusedSimpArgs false
set_option linter.unusedVariables false
set_option linter.unnecessarySimpa false
open Go.RowKit Go.Lib Go.Proofs.YthpnnffogbjhpaaGreatDoor.Crc Go.Proofs.YthpnnffogbjhpaaGreatDoor.Cm

abbrev TDone : TypeId := 72
def dnc (d : Dn) : List Value := [.int .u8 (d.r.code : Int), .string (strOf d.r.text), .bool d.fresh, .int .i64 (d.wave : Int), .int .i64 (d.turn : Int)]
def dncs (ds : List Dn) : List Value := ds.flatMap dnc
theorem infoDn : (Tryz.prog.info? TDone).map (fun i => (i.zero, i.size, i.bytes)) = some (some (.agg #[.int .u8 0, .string ByteArray.empty, .bool false, .int .i64 0, .int .i64 0]), 5, 48) := by kernel_rfl
theorem dncs_cons (d : Dn) (ds : List Dn) : dncs (d :: ds) = .int .u8 (d.r.code : Int) :: .string (strOf d.r.text) :: .bool d.fresh :: .int .i64 (d.wave : Int) :: .int .i64 (d.turn : Int) :: dncs ds := rfl
theorem dncs_len : ∀ ds : List Dn, (dncs ds).length = ds.length * 5
  | [] => rfl
  | d :: ds => by rw [dncs_cons]; simp only [List.length_cons]; rw [dncs_len ds]; omega
theorem dncs_get : ∀ (ds : List Dn) (i k : Nat) (d : Dn) (v : Value), ds[i]? = some d → (dnc d)[k]? = some v → (dncs ds)[i * 5 + k]? = some v
  | [], i, k, d, v, h, _ => by simp at h
  | e :: ds, 0, k, d, v, h, hk => by
    simp at h
    subst h
    rw [Nat.zero_mul, Nat.zero_add]
    show (dnc e ++ dncs ds)[k]? = some v
    rw [List.getElem?_append_left (List.getElem?_eq_some_iff.1 hk).1]
    exact hk
  | e :: ds, i + 1, k, d, v, h, hk => by
    have := dncs_get ds i k d v (by simpa using h) hk
    rw [show (i + 1) * 5 + k = (i * 5 + k) + 1 + 1 + 1 + 1 + 1 by omega, dncs_cons]
    simpa using this
theorem dncs_set : ∀ (ds : List Dn) (i : Nat) (d : Dn), i < ds.length →
    ((((((dncs ds).set (i * 5) (.int .u8 (d.r.code : Int))).set (i * 5 + 1) (.string (strOf d.r.text))).set (i * 5 + 2) (.bool d.fresh)).set (i * 5 + 3) (.int .i64 (d.wave : Int))).set (i * 5 + 4) (.int .i64 (d.turn : Int))) = dncs (ds.set i d)
  | [], i, d, h => by simp at h
  | e :: ds, 0, d, h => by
    rw [dncs_cons]
    simp only [Nat.zero_mul, Nat.zero_add, List.set_cons_zero, dncs_cons]
    rfl
  | e :: ds, i + 1, d, h => by
    have := dncs_set ds i d (by simpa using h)
    rw [show (i + 1) * 5 = i * 5 + 1 + 1 + 1 + 1 + 1 by omega, List.set_cons_succ, dncs_cons, dncs_cons, ← this]
    rw [show i * 5 + 1 + 1 + 1 + 1 + 1 + 1 = (i * 5 + 1) + 1 + 1 + 1 + 1 + 1 by omega, show i * 5 + 1 + 1 + 1 + 1 + 1 + 2 = (i * 5 + 2) + 1 + 1 + 1 + 1 + 1 by omega, show i * 5 + 1 + 1 + 1 + 1 + 1 + 3 = (i * 5 + 3) + 1 + 1 + 1 + 1 + 1 by omega, show i * 5 + 1 + 1 + 1 + 1 + 1 + 4 = (i * 5 + 4) + 1 + 1 + 1 + 1 + 1 by omega]
    simp only [List.set_cons_succ]
theorem made_dn (n : Nat) : madeCells #[.int .u8 0, .string ByteArray.empty, .bool false, .int .i64 0, .int .i64 0] (n * 5) = (dncs (List.replicate n dn0)).toArray := by
  apply Array.ext'
  refine List.ext_getElem? fun j => ?_
  by_cases h : j < n * 5
  · have hd : (List.replicate n dn0)[j / 5]? = some dn0 := by rw [List.getElem?_replicate, if_pos (by omega)]
    have hm : j % 5 < 5 := Nat.mod_lt _ (by omega)
    have hv : (dnc dn0)[j % 5]? = some ((#[Value.int .u8 0, .string ByteArray.empty, .bool false, .int .i64 0, .int .i64 0])[j % 5]!) := by
      generalize j % 5 = r at hm
      match r, hm with
      | 0, _ => rfl
      | 1, _ => rfl
      | 2, _ => rfl
      | 3, _ => rfl
      | 4, _ => rfl
    have := dncs_get _ _ _ _ _ hd hv
    rw [show j / 5 * 5 + j % 5 = j by omega] at this
    rw [this]
    simp only [madeCells, Array.toList_map, Array.toList_range, List.getElem?_map, List.getElem?_range, h, Option.map_some]
    rfl
  · rw [List.getElem?_eq_none (by rw [Array.length_toList, size_madeCells]; omega), List.getElem?_eq_none (by simp [dncs_len]; omega)]
/-! ### one of them is set -/
theorem blk_some {w : World} {b j : Nat} {cs : Array Value} {t : TypeId} (h : w.heap[b]? = some (.cells cs t (0, 0))) (hj : j < cs.size) : ∃ u, w.cell? ⟨b, j, none⟩ = some u := ⟨cs[j], blk_cell h (by simp [hj])⟩
abbrev set1 (w : World) (b q : Nat) (d : Dn) : World := w.setCell ⟨b, q * 5, none⟩ (.int .u8 (d.r.code : Int))
abbrev set2 (w : World) (b q : Nat) (d : Dn) : World := (set1 w b q d).setCell ⟨b, q * 5 + 1, none⟩ (.string (strOf d.r.text))
abbrev set3 (w : World) (b q : Nat) (d : Dn) : World := (set2 w b q d).setCell ⟨b, q * 5 + 2, none⟩ (.bool d.fresh)
abbrev set4 (w : World) (b q : Nat) (d : Dn) : World := (set3 w b q d).setCell ⟨b, q * 5 + 3, none⟩ (.int .i64 (d.wave : Int))
abbrev set5 (w : World) (b q : Nat) (d : Dn) : World := (set4 w b q d).setCell ⟨b, q * 5 + 4, none⟩ (.int .i64 (d.turn : Int))
theorem set5_blk {w : World} {b q : Nat} {ds : List Dn} (d : Dn) (h : w.heap[b]? = some (.cells (dncs ds).toArray TDone (0, 0))) (hq : q < ds.length) : (set5 w b q d).heap[b]? = some (.cells (dncs (ds.set q d)).toArray TDone (0, 0)) := by
  have h1 := blk_set (i := q * 5) h (.int .u8 (d.r.code : Int))
  have h2 := blk_set (i := q * 5 + 1) h1 (.string (strOf d.r.text))
  have h3 := blk_set (i := q * 5 + 2) h2 (.bool d.fresh)
  have h4 := blk_set (i := q * 5 + 3) h3 (.int .i64 (d.wave : Int))
  have h5 := blk_set (i := q * 5 + 4) h4 (.int .i64 (d.turn : Int))
  rw [h5, ← dncs_set ds q d hq]
  simp only [List.setIfInBounds_toArray]
theorem set5_facts {w : World} {b q : Nat} {ds : List Dn} (d : Dn) (h : w.heap[b]? = some (.cells (dncs ds).toArray TDone (0, 0))) (hq : q < ds.length) :
    (∃ u, w.cell? ⟨b, q * 5, none⟩ = some u) ∧ (∃ u, (set1 w b q d).cell? ⟨b, q * 5 + 1, none⟩ = some u) ∧ (∃ u, (set2 w b q d).cell? ⟨b, q * 5 + 2, none⟩ = some u) ∧ (∃ u, (set3 w b q d).cell? ⟨b, q * 5 + 3, none⟩ = some u) ∧ (∃ u, (set4 w b q d).cell? ⟨b, q * 5 + 4, none⟩ = some u) ∧
    w.frozen? ⟨b, q * 5, none⟩ = false ∧ (set1 w b q d).frozen? ⟨b, q * 5 + 1, none⟩ = false ∧ (set2 w b q d).frozen? ⟨b, q * 5 + 2, none⟩ = false ∧ (set3 w b q d).frozen? ⟨b, q * 5 + 3, none⟩ = false ∧ (set4 w b q d).frozen? ⟨b, q * 5 + 4, none⟩ = false := by
  have hl := dncs_len ds
  have h1 := blk_set (i := q * 5) h (.int .u8 (d.r.code : Int))
  have h2 := blk_set (i := q * 5 + 1) h1 (.string (strOf d.r.text))
  have h3 := blk_set (i := q * 5 + 2) h2 (.bool d.fresh)
  have h4 := blk_set (i := q * 5 + 3) h3 (.int .i64 (d.wave : Int))
  exact ⟨blk_some h (by simp; omega), blk_some h1 (by simp; omega), blk_some h2 (by simp; omega), blk_some h3 (by simp; omega), blk_some h4 (by simp; omega), blk_free h, blk_free h1, blk_free h2, blk_free h3, blk_free h4⟩
theorem set5_upd (w : World) (b q : Nat) (d : Dn) : Upd [b] w (set5 w b q d) :=
  (((((Upd.refl [b] w).setCell (p := ⟨b, q * 5, none⟩) (.inl (by simp)) _).setCell (p := ⟨b, q * 5 + 1, none⟩) (.inl (by simp)) _).setCell (p := ⟨b, q * 5 + 2, none⟩) (.inl (by simp)) _).setCell (p := ⟨b, q * 5 + 3, none⟩) (.inl (by simp)) _).setCell (p := ⟨b, q * 5 + 4, none⟩) (.inl (by simp)) _
theorem srcD_blk {w : World} {b n z c : Nat} {cs : List Value} {t : TypeId} (h : w.heap[b]? = some (.cells cs.toArray t (0, 0))) (hn : cs.length = n * z) (h1 : ∀ u ∈ cs, u.oneCell' = true) : SrcAt w (some ⟨b, 0, none⟩) n c cs z := by
  refine ⟨hn, h1, by simp, fun a e j u hj => ?_⟩
  cases e
  rw [show (⟨b, 0, none⟩ : Addr).add j = ⟨b, j, none⟩ by unfold Addr.add; split <;> simp_all]
  simp only [World.cell?, h]
  simpa using hj
end Go.Proofs.YthpnnffogbjhpaaGreatDoor.Kv
namespace Go.Proofs.YthpnnffogbjhpaaGreatDoor.Kv
set_option linter.unusedSimpArgs false
set_option linter.unusedVariables false
set_option linter.unnecessarySimpa false
open Go.RowKit Go.Lib Go.Proofs.YthpnnffogbjhpaaGreatDoor.Crc Go.Proofs.YthpnnffogbjhpaaGreatDoor.Cm

theorem agg_bool (t : TypeId) (h : Tryz.prog.underlying t = some .bool) (w : World) : (isAgg t).run Tryz.prog w = .ok false w := by
  unfold isAgg
  rw [Sem.run_bind, run_underlying h w]
  rfl
theorem flds_dn : (Tryz.prog.fieldsOf TDone).toList.map (fun f => (f.name == "_", f.type, f.offset)) = [(false, 39, 0), (false, 4, 2), (false, 3, 3), (false, 3, 4)] := by kernel_rfl
theorem part_re0 {xs : Array Value} {x y : Value} {w : World} (h : xs.extract 0 2 = #[x, y]) : (part 39 xs 0).run Tryz.prog w = .ok (.agg #[x, y]) w := by
  have h1 : (isAgg 39).run Tryz.prog w = .ok true w := by kernel_rfl
  simp [part, Sem.run_bind, h1, h]
theorem eq_dn (d : Dn) (w : World) : (Op.equalIn 10000 TDone (.agg #[.int .u8 (d.r.code : Int), .string (strOf d.r.text), .bool d.fresh, .int .i64 (d.wave : Int), .int .i64 (d.turn : Int)]) (.agg #[.int .u8 (d.r.code : Int), .string (strOf d.r.text), .bool d.fresh, .int .i64 (d.wave : Int), .int .i64 (d.turn : Int)])).run Tryz.prog w = .ok true w := by
  rw [run_equalIn_struct w 9999 TDone _ _ (by kernel_rfl) (by kernel_rfl)]
  have hf := flds_dn
  generalize (Tryz.prog.fieldsOf TDone).toList = fs at hf ⊢
  obtain ⟨f, l1, rfl, hf1, h2⟩ := List.map_eq_cons_iff.1 hf
  obtain ⟨g, k, m, rfl, hg1, hk1, hm1⟩ := map3 h2
  simp only [Prod.mk.injEq] at hf1 hg1 hk1 hm1
  obtain ⟨f1, f2, f3⟩ := hf1
  obtain ⟨g1, g2, g3⟩ := hg1
  obtain ⟨k1, k2, k3⟩ := hk1
  obtain ⟨m1, m2, m3⟩ := hm1
  have e0 := eq_re 9997 (d.r.code : Int) (d.r.code : Int) d.r.text d.r.text w
  have e1 := run_equalIn_bool (P := Tryz.prog) w 9998 4 d.fresh d.fresh Tryz.underlying4
  have e2 := run_equalIn_int (P := Tryz.prog) w 9998 3 .i64 .i64 (d.wave : Int) (d.wave : Int) Tryz.underlying3
  have e3 := run_equalIn_int (P := Tryz.prog) w 9998 3 .i64 .i64 (d.turn : Int) (d.turn : Int) Tryz.underlying3
  rw [eqF_cons f1 (by rw [f2, f3]; exact part_re0 rfl) (by rw [f2, f3]; exact part_re0 rfl) (by rw [f2]; exact e0)]
  rw [eqF_cons g1 (by rw [g2, g3]; exact part_of (agg_bool _ Tryz.underlying4 w) rfl) (by rw [g2, g3]; exact part_of (agg_bool _ Tryz.underlying4 w) rfl) (by rw [g2]; exact e1)]
  rw [eqF_cons k1 (by rw [k2, k3]; exact part_of (agg_int _ Tryz.underlying3 w) rfl) (by rw [k2, k3]; exact part_of (agg_int _ Tryz.underlying3 w) rfl) (by rw [k2]; exact e2)]
  rw [eqF_cons m1 (by rw [m2, m3]; exact part_of (agg_int _ Tryz.underlying3 w) rfl) (by rw [m2, m3]; exact part_of (agg_int _ Tryz.underlying3 w) rfl) (by rw [m2]; exact e3), eqF_nil]
  simp
theorem neq_dn (d : Dn) (w : World) : (binOp .neq TDone (.agg #[.int .u8 (d.r.code : Int), .string (strOf d.r.text), .bool d.fresh, .int .i64 (d.wave : Int), .int .i64 (d.turn : Int)]) (.agg #[.int .u8 (d.r.code : Int), .string (strOf d.r.text), .bool d.fresh, .int .i64 (d.wave : Int), .int .i64 (d.turn : Int)])).run Tryz.prog w = .ok (.bool false) w := by
  rw [run_neq_struct, eq_dn]
  rfl
set_option maxRecDepth 100000 in
theorem run0_any {xo : Option Addr} {n cp : Nat} (w : World) : Calls Tryz.prog 29 #[.pointer none, .slice xo n cp, .nilFunc] w fun e w' => e = .returned (.slice none 0 0) ∧ Upd [] w w' := by
  refine calls_of_wp_marks Tryz.func29 rfl ?_
  simp only [Tryz.ntmps29, List.size_toArray, List.length_cons, List.length_nil, Nat.reduceAdd, Nat.reduceSub, Array.replicate_succ, Array.replicate_zero, List.push_toArray, List.append_toArray, List.nil_append, List.cons_append]
  go_wp2_with fail
  exact ⟨_, results_tmp rfl _ _ _, rfl, ((Upd.refl [] _).alloc _).alloc _⟩
set_option maxRecDepth 100000 in
set_option maxHeartbeats 2000000 in
theorem one0_any {T : Nat → Prop} {v : Value} {cl : List Cm} (w : World) (h : cmK.row w T v cl) (hl100 : cl.length ≤ 100) :
    Calls Tryz.prog 31 #[.pointer none, v] w fun e w' => e = .returned (.slice none 0 0) ∧ Upd [] w w' := by
  obtain ⟨xo, cp, rfl, h1, h2, hg⟩ := cm_get h
  have HG := hide hg
  simp only [maxLen] at h2
  clear h hg
  go_enter Tryz.func31, Tryz.ntmps31
  go_wp2_with fail
  go_loopw [5, 12] (fun so si wr => ∃ (i : Nat), i ≤ cl.length ∧ so = .slice none 0 0 ∧ si = .int .i64 i ∧ Upd [] w wr) (fun _ si _ => cl.length - (RowKit.intOf si).toNat)
  case atStart => exact ⟨0, by omega, rfl, rfl, Upd.refl _ _⟩
  case round =>
    obtain ⟨i, hi2, rfl, rfl, hu⟩ := hrel
    have HU := hide hu
    by_cases hlt : i < cl.length
    · have d5 : decide ((i : Int) < cl.length) = true := by simp; omega
      have d5' : decide (i < cl.length) = true := by simpa using hlt
      obtain ⟨c, hc⟩ : ∃ c, cl[i]? = some c := ⟨_, List.getElem?_eq_getElem hlt⟩
      obtain ⟨bc, oc, ka, kc, rfl, hbc, -, fit, hks, hcc⟩ := HG.out i c hc
      obtain ⟨c0, c1, c2, c3, c4, c5, c6⟩ := hcc.upd hu hbc (by simp)
      have hU := (Upd.refl [] wr).alloc (.cells (cmc c (.slice ka c.keys.length kc)).toArray TCmd)
      clear hc fit hks hcc hu
      go_upto_region 5 with fail
      change Code.wp _ _ _ _ (wr.alloc (.cells (cmc c (.slice ka c.keys.length kc)).toArray TCmd))
      generalize wr.alloc (.cells (cmc c (.slice ka c.keys.length kc)).toArray TCmd) = W at *
      have UW := hide (HU.out.trans hU)
      clear hU c0 c1 c2 c3 c4 c5 c6
      go_wp2_with fail
      go_roundw
      case rel => exact ⟨i + 1, by omega, rfl, by go_num, UW.out⟩
      case measure => simp [RowKit.intOf]; omega
    · have d5 : decide ((i : Int) < cl.length) = false := by simp; omega
      have d5' : decide (i < cl.length) = false := by simpa using hlt
      clear hlt hu
      go_wp2_with fail
      go_ret
      exact ⟨rfl, HU.out⟩
end Go.Proofs.YthpnnffogbjhpaaGreatDoor.Kv
