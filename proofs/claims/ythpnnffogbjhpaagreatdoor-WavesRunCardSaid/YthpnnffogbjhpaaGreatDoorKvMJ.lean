/- Mys, KvJ in one text. -/
import Derived.Test.YthpnnffogbjhpaaGreatDoorGenAll
import Derived.Test.YthpnnffogbjhpaaGreatDoorCmM
import Derived.Test.YthpnnffogbjhpaaGreatDoorKvWH
import Derived.Test.YthpnnffogbjhpaaGreatDoorKvLV
import Derived.Lib.AppendStr
set_option linter.unusedSimpArgs false
set_option linter.unusedVariables false
set_option linter.unnecessarySimpa false
namespace Go.Proofs.YthpnnffogbjhpaaGreatDoor
open Go.RowKit Go.Lib Go.Proofs.YthpnnffogbjhpaaGreatDoor.Crc Go.Proofs.YthpnnffogbjhpaaGreatDoor.Cm

theorem run_append_mystr {P : Program} (w : World) (base : Nat) (t u ty e : TypeId) (i : TypeInfo) (ht : P.underlying t = some (.slice e)) (hu : P.underlying u = some .string) (hi : P.info? e = some i) (hz : i.zero = some (.int .u8 0))
    (hsize : i.size = 1) (hby : i.bytes = 1) (v : Value) (n : Nat) (xs : List Value) (hown : w.ownsRow base e 1 v n xs) (s : ByteArray)
    (h63 : n + s.size ≤ maxLen) (hbytes : n + s.size ≤ 140737488355328) (hbase : base ≤ w.heap.size) :
    ∃ v' w', (Builtin.append_ #[t, u] ty #[v, .string s]).run P w = .ok v' w' ∧ w'.ownsRow base e 1 v' (n + s.size) (xs ++ strCells s) ∧ Upd v.ownBlock.toList w w' ∧ (∀ g, v'.ownBlock = some g → v.ownBlock = some g ∨ w.heap.size ≤ g) := by
  obtain ⟨v', w', hr, h2, h3, h4⟩ := run_append_own_string (P := P) w base t u ty e i ht hu hi hz hsize hby v n xs hown s h63 hbytes hbase
  refine ⟨v', w', hr, h2, upd_of_grown h3, fun g' hg' => ?_⟩
  have h63' : n + s.size ≤ 9223372036854775807 := by simp only [maxLen] at h63; omega
  rcases hown.2 with ⟨rfl, rfl⟩ | ⟨g, cap, cur, rfl, hbg, hg, hnc, hcm, hcs, htake⟩
  · have hx : xs = [] := List.eq_nil_of_length_eq_zero (by simpa using hown.1)
    subst hx
    obtain ⟨v2, w2, hr2, h22, _, _⟩ := run_append_own_string (P := P) w w.heap.size t u ty e i ht hu hi hz hsize hby (.slice none 0 0) 0 [] (World.ownsRow_nil w w.heap.size e 1) s h63 hbytes (Nat.le_refl _)
    rw [hr] at hr2
    injection hr2 with e1 e2
    subst e1; subst e2
    exact .inr (h22.lt g' hg').1
  · by_cases hroom : n + s.size ≤ cap
    · have hcs' : cur.size = cap := by simpa using hcs
      have hr2 := run_append_room_string (P := P) w t u ty e i ht hu hi hsize g n cap cur hg s hroom (by omega)
      rw [hr] at hr2
      injection hr2 with e1 e2
      rw [e1] at hg'
      exact .inl hg'
    · have holds : ∀ j u, xs[j]? = some u → w.cell? ((⟨g, 0, none⟩ : Addr).add j) = some u := hown.cells (g := g) rfl
      have hxl : xs.length = n := by simpa using hown.1
      have hr2 := run_append_grow_string (P := P) w t u ty e i (.int .u8 0) ht hu hi hz ⟨g, 0, none⟩ n cap xs (by rw [hsize]; simpa using hxl) holds s (by omega) (by omega) (by rw [hby]; exact growslice_fits (by omega) (by omega))
      rw [hr] at hr2
      injection hr2 with e1 e2
      rw [e1] at hg'
      simp [Value.ownBlock] at hg'
      exact .inr (by omega)
theorem wpList_append_mystr {P : Program} (w : World) {ops : Array Oper} {rest : List Oper} {o : Oper} {a : Act} {Q : Exit → Act → World → Prop} (hgd : o.guard = none) (sl x : Operand) (t u : TypeId)
    (ho : o.op = .call { callee := .builtin .append, args := #[sl, x], argTypes := #[t, u] })
    (base : Nat) (e : TypeId) (i : TypeInfo) (ht : P.underlying t = some (.slice e)) (hu : P.underlying u = some .string) (hi : P.info? e = some i) (hz : i.zero = some (.int .u8 0))
    (hsize : i.size = 1) (hby : i.bytes = 1)
    (v : Value) (n : Nat) (xs : List Value) (hs : a.eval sl = v) (hown : w.ownsRow base e 1 v n xs) (s : ByteArray) (hx : a.eval x = .string s)
    (h63 : n + s.size ≤ maxLen) (hbytes : n + s.size ≤ 140737488355328) (hbase : base ≤ w.heap.size)
    (h : ∀ v' w', w'.ownsRow base e 1 v' (n + s.size) (xs ++ strCells s) → Upd v.ownBlock.toList w w' → (∀ g, v'.ownBlock = some g → v.ownBlock = some g ∨ w.heap.size ≤ g) → wpList P ops Q rest (a.put o.dst v') w') : wpList P ops Q (o :: rest) a w := by
  refine wpList_plain hgd fun K hK => ?_
  obtain ⟨v', w', hr, h2, h3, h4⟩ := run_append_mystr (P := P) w base t u o.type e i ht hu hi hz hsize hby v n xs hown s h63 hbytes hbase
  unfold Oper.wp execOp
  simp only [ho, resolve, invoke, builtin, Sem.run_bind, Sem.run_pure, Result.andThen_ok, List.map_toArray, List.map_cons, List.map_nil, hs, hx, hr]
  exact hK _ _ (h v' w' h2 h3 h4)
theorem strCells_of (s : List UInt8) : strCells (strOf s) = s.map u8v := by
  simp [strCells, strOf, u8v]
end Go.Proofs.YthpnnffogbjhpaaGreatDoor
namespace Go.Proofs.YthpnnffogbjhpaaGreatDoor.Kv
set_option linter.unusedSimpArgs false
set_option linter.unusedVariables false
open Go.RowKit Go.Lib Go.Proofs.YthpnnffogbjhpaaGreatDoor.Crc Go.Proofs.YthpnnffogbjhpaaGreatDoor.Cm

abbrev TBld : TypeId := 184
theorem bldSize : (Tryz.prog.info? TBld).map (·.size) = some 2 := by kernel_rfl
theorem bldLies : liesAt Tryz.prog Tryz.prog.depth TBld (2 / Tryz.prog.cellsOf TBld) 0 TBld 1 = true := by kernel_rfl
set_option maxRecDepth 100000 in
theorem ccheck_used (b : Nat) (w : World) (h0 : w.cell? ⟨b, 0, none⟩ = some (.pointer (some ⟨b, 0, none⟩))) :
    Calls Tryz.prog 128 #[.pointer (some ⟨b, 0, none⟩)] w fun e w' => e = .returned (.tuple #[]) ∧ w' = w := by
  obtain ⟨j, hj, -⟩ := Option.map_eq_some_iff.1 bldSize
  go_enter Tryz.func128, Tryz.ntmps128
  go_wp2_with fail
  rw [Lib.run_neq_ptr_same w _ Tryz.underlying182 hj]
  go_wp2_with fail
  go_end0
  exact ⟨rfl, rfl⟩
set_option maxRecDepth 100000 in
theorem ccheck_fresh (b : Nat) (w : World) (h0 : w.cell? ⟨b, 0, none⟩ = some (.pointer none)) (hsh : w.shape? b = some (TBld, 2)) (hfz : w.frozen? ⟨b, 0, none⟩ = false) :
    Calls Tryz.prog 128 #[.pointer (some ⟨b, 0, none⟩)] w fun e w' => e = .returned (.tuple #[]) ∧ w' = w.setCell ⟨b, 0, none⟩ (.pointer (some ⟨b, 0, none⟩)) := by
  obtain ⟨j, hj, hjs⟩ := Option.map_eq_some_iff.1 bldSize
  go_enter Tryz.func128, Tryz.ntmps128
  go_wp2_with fail
  rw [Lib.run_to_unsafe w ⟨b, 0, none⟩ Tryz.underlying182 Tryz.underlying231 hj (by rw [hjs]; decide) hsh (Nat.zero_lt_succ 1)]
  simp only [Result.andThen]
  rw [Oper.upon_value]
  go_wp2_with fail
  rw [run_callFunc_extern Tryz.func155 (by kernel_rfl) (by kernel_rfl) (by kernel_rfl) (e := Extern.AbiNoEscape.same) (by kernel_rfl)]
  rw [Lib.run_noEscape]
  simp only [Result.andThen]
  rw [Oper.upon_value]
  go_wp2_with fail
  rw [Lib.run_from_unsafe w ⟨b, 0, none⟩ Tryz.underlying231 Tryz.underlying182 hj hsh bldLies]
  simp only [Result.andThen]
  rw [Oper.upon_value]
  go_wp2_with fail
  go_end0
  exact ⟨rfl, rfl⟩
theorem ccheck_any (B b : Nat) (bs : List Value) (w : World) (h : Lib.IsBuilder TBld 5 B b bs w) :
    Calls Tryz.prog 128 #[.pointer (some ⟨b, 0, none⟩)] w fun e w' => e = .returned (.tuple #[]) ∧ (Lib.BuilderAt TBld 5 B b (.pointer (some ⟨b, 0, none⟩)) bs w' ∧ Below B w w') := by
  rcases h with h | h
  · refine (ccheck_fresh b w h.cell0 h.shape h.frozen0).mono ?_
    rintro e w' ⟨rfl, rfl⟩
    exact ⟨rfl, h.used _, (Below.refl B w).setCell (p := ⟨b, 0, none⟩) h.1 _⟩
  · refine (ccheck_used b w h.cell0).mono ?_
    rintro e w' ⟨rfl, rfl⟩
    exact ⟨rfl, h, Below.refl B _⟩
theorem infoB8 : (Tryz.prog.info? 5).map (fun i => (i.zero, i.size, i.bytes)) = some (some (.int .u8 0), 1, 1) := by kernel_rfl
theorem parts_of {p : Option TypeInfo} {z : Value} {a b : Nat} (h : p.map (fun i => (i.zero, i.size, i.bytes)) = some (some z, a, b)) : ∃ i, p = some i ∧ i.zero = some z ∧ i.size = a ∧ i.bytes = b := by
  cases p with
  | none => cases h
  | some i =>
    simp only [Option.map_some, Option.some.injEq, Prod.mk.injEq] at h
    exact ⟨i, rfl, h.1, h.2.1, h.2.2⟩
set_option maxRecDepth 100000 in
set_option maxHeartbeats 1000000 in
theorem wstr_any (B b : Nat) (bs : List Value) (s : ByteArray) (w : World) (h : Lib.IsBuilder TBld 5 B b bs w) (hlen : bs.length + s.size ≤ 140737488355328) (hBw : B ≤ w.heap.size) :
    Calls Tryz.prog 106 #[.pointer (some ⟨b, 0, none⟩), .string s] w fun e w' => e = .returned (.tuple #[.int .i64 s.size, .nilIface]) ∧ (Lib.BuilderAt TBld 5 B b (.pointer (some ⟨b, 0, none⟩)) (bs ++ Lib.strCells s) w' ∧ Below B w w') := by
  obtain ⟨i0, hi, hz0, hz1, hz2⟩ := parts_of infoB8
  go_enter Tryz.func106, Tryz.ntmps106
  go_wp2_with fail
  refine (ccheck_any B b bs _ h).mono ?_
  rintro e w1 ⟨rfl, h1, hb1⟩
  obtain ⟨hB, v, hbk, hown, hne⟩ := h1
  have c0 : w1.cell? ⟨b, 0, none⟩ = some (.pointer (some ⟨b, 0, none⟩)) := by rw [Lib.cell_of_heap hbk]; rfl
  have c1 : w1.cell? ⟨b, 1, none⟩ = some v := by rw [Lib.cell_of_heap hbk]; rfl
  go_wp2_with (at_builtin; refine Lib.wpList_append_own_string _ rfl _ _ 22 9 rfl B 5 i0 Tryz.underlying22 Tryz.underlying9 hi hz0 hz1 hz2 _ _ _ rfl hown s rfl ?c3 ?c4 ?c5 ?_)
  case c3 => unfold maxLen; omega
  case c4 => omega
  case c5 => have := hb1.size; omega
  intro v' w2 hown' hgrow _
  have hlt : b < w1.heap.size := blk_lt hbk
  have hb2 : w2.heap[b]? = some (.cells #[.pointer (some ⟨b, 0, none⟩), v] TBld (0, 0)) := by
    rw [hgrow.block b hlt (fun e => hne e.symm)]
    exact hbk
  have d0 : w2.cell? ⟨b, 0, none⟩ = some (.pointer (some ⟨b, 0, none⟩)) := by rw [Lib.cell_of_heap hb2]; rfl
  have d1 : w2.cell? ⟨b, 1, none⟩ = some v := by rw [Lib.cell_of_heap hb2]; rfl
  have f1 : w2.frozen? ⟨b, 1, none⟩ = false := Lib.frozen_of_heap hb2 1
  obtain ⟨ao, n', cap, rfl⟩ : ∃ ao n' cap, v' = .slice ao n' cap := by
    rcases hown'.2 with ⟨hv, _⟩ | ⟨g, cap, cur, hv, _⟩
    · exact ⟨_, _, _, hv⟩
    · exact ⟨_, _, _, hv⟩
  go_wp2_with fail
  go_ret2
  refine ⟨rfl, ?_, ?_⟩
  · exact Lib.BuilderAt.put (T := TBld) (e := 5) hB hb2 (bs' := bs ++ Lib.strCells s) (by simpa [Lib.strCells_length] using hown') (by decide)
  · exact (hb1.grown hgrow (by have := hb1.size; omega) (fun k hk => (hown.lt k hk).1)).setCell (p := ⟨b, 1, none⟩) hB _
theorem join_app (m : KM) (a b : List (List UInt8)) : joinM m (a ++ b) = joinM m a ++ joinM m b := by
  induction a with
  | nil => rfl
  | cons k ks ih => simp [joinM, ih]
theorem join_next {m : KM} {ks : List (List UInt8)} {i : Nat} {k : List UInt8} (h : ks[i]? = some k) : joinM m (ks.take (i + 1)) = joinM m (ks.take i) ++ ((mfind m k).getD [] ++ [44]) := by
  obtain ⟨hlt, he⟩ := List.getElem?_eq_some_iff.1 h
  rw [List.take_add_one, h, join_app]
  simp [joinM]
theorem bytes_app (a b : List UInt8) : Lib.byteCells a ++ Lib.strCells (strOf b) = Lib.byteCells (a ++ b) := by
  simp [Lib.byteCells, Lib.strCells, strOf]
theorem upd_below {w w1 wr : World} {B : Nat} (hu : Upd [] w w1) (hb : Below B w1 wr) (h : w.heap.size ≤ B) : Upd [] w wr :=
  ⟨hb.os.trans hu.os, hb.tape.trans hu.tape, hb.output.trans hu.output, Nat.le_trans hu.size hb.size, fun k hk _ => (hb.block k (by omega)).trans (hu.block k hk (by simp))⟩
theorem join_step {m : KM} {k : List UInt8} (h : KvOk m) : ((mfind m k).getD []).length ≤ 64 := by
  cases hf : mfind m k with
  | none => simp
  | some v => simpa using h.find hf
set_option maxRecDepth 100000 in
set_option maxHeartbeats 2000000 in
theorem join_any {T : Nat → Prop} {v : Value} {c : Cm} {b g : Nat} {m : KM} (w : World) (h : StIs w b g m) (hm : KvOk m) (hc : CmAt w T v c) (hk : Cm.Good c) :
    Calls Tryz.prog 87 #[.pointer (some ⟨b, 0, none⟩), v] w fun e w' => e = .returned (rpv ⟨0, joinM m c.keys⟩) ∧ Upd [] w w' := by
  have OK := hide hm
  clear hm
  obtain ⟨fit, ks, rfl, hks⟩ := hc
  obtain ⟨xo, cp, rfl, h1, h2, hget⟩ := hks.get
  have hkl := Good.keys hk
  have ST := hide h; have KG := hide hget; have FIT := hide fit; have GK := hide hk; have HKL := hide hkl.2.2
  have hk16 := hkl.1
  have hgl := MapKind.is_lt h.map
  have hbl := blk_lt h.blk
  simp only [maxLen] at h2
  clear h hget hks hk fit hkl
  unfold cmv
  simp only [strV]
  go_enter Tryz.func87, Tryz.ntmps87
  go_upto_region 2 with fail
  have hB := blk_alloc (blk_alloc (blk_new w (.cells (cmc c (.slice xo c.keys.length cp)).toArray TCmd)) (.cells #[.int .u8 0, .string ⟨#[]⟩] TRp)) (.cells #[.pointer none, .slice none 0 0] TBld)
  have hR := blk_alloc (blk_new (w.alloc (.cells (cmc c (.slice xo c.keys.length cp)).toArray TCmd)) (.cells #[.int .u8 0, .string ⟨#[]⟩] TRp)) (.cells #[.pointer none, .slice none 0 0] TBld)
  have hL := blk_new ((w.alloc (.cells (cmc c (.slice xo c.keys.length cp)).toArray TCmd)).alloc (.cells #[.int .u8 0, .string ⟨#[]⟩] TRp)) (.cells #[.pointer none, .slice none 0 0] TBld)
  have hu := (((Upd.refl [] w).alloc (.cells (cmc c (.slice xo c.keys.length cp)).toArray TCmd)).alloc (.cells #[.int .u8 0, .string ⟨#[]⟩] TRp)).alloc (.cells #[.pointer none, .slice none 0 0] TBld)
  simp only [World.size_alloc] at hR hL
  have hsz : (((w.alloc (.cells (cmc c (.slice xo c.keys.length cp)).toArray TCmd)).alloc (.cells #[.int .u8 0, .string ⟨#[]⟩] TRp)).alloc (.cells #[.pointer none, .slice none 0 0] TBld)).heap.size = w.heap.size + 3 := by simp
  change Code.wp _ _ _ _ (((w.alloc (.cells (cmc c (.slice xo c.keys.length cp)).toArray TCmd)).alloc (.cells #[.int .u8 0, .string ⟨#[]⟩] TRp)).alloc (.cells #[.pointer none, .slice none 0 0] TBld))
  generalize ((w.alloc (.cells (cmc c (.slice xo c.keys.length cp)).toArray TCmd)).alloc (.cells #[.int .u8 0, .string ⟨#[]⟩] TRp)).alloc (.cells #[.pointer none, .slice none 0 0] TBld) = w1 at *
  have CB := hide hB; have CR := hide hR; have U1 := hide hu; have CL := hide hL
  obtain ⟨B, hBs⟩ : ∃ B, w.heap.size = B := ⟨_, rfl⟩
  have KB := hide hBs
  rw [hBs] at hsz CB CR CL ⊢
  clear hB hR hu hBs hL
  have b3 : w1.cell? ⟨B, 3, none⟩ = some (.slice xo c.keys.length cp) := blk_cell CB.out rfl
  have CI := hide (show Lib.IsBuilder TBld 5 (B + 2) (B + 1 + 1) (Lib.byteCells (joinM m (c.keys.take 0))) w1 from .inl ⟨by omega, _, CL.out, by simpa [joinM, Lib.byteCells] using World.ownsRow_nil w1 (B + 2) 5 1, by simp [Value.ownBlock]⟩)
  go_wp2_with fail
  go_loopw [11] (fun si wr => ∃ i : Nat, i ≤ c.keys.length ∧ si = .int .i64 i ∧ Lib.IsBuilder TBld 5 (B + 2) (B + 1 + 1) (Lib.byteCells (joinM m (c.keys.take i))) wr ∧ Below (B + 2) w1 wr) (fun si _ => c.keys.length - (RowKit.intOf si).toNat)
  case atStart => exact ⟨0, by omega, rfl, CI.out, Below.refl _ _⟩
  case round =>
    obtain ⟨i, hi, rfl, hbi, hbe⟩ := hrel
    have BI := hide hbi; have BE := hide hbe
    have hsz2 := hbe.size
    have UR := hide (upd_below U1.out hbe (by have := KB.out; omega))
    clear hbi hbe
    by_cases hlt : i < c.keys.length
    · have d5 : decide ((i : Int) < c.keys.length) = true := by simp; omega
      have d5' : decide (i < c.keys.length) = true := by simpa using hlt
      obtain ⟨k, hik⟩ : ∃ k, c.keys[i]? = some k := ⟨_, List.getElem?_eq_getElem hlt⟩
      obtain ⟨bk, ok, rfl, hbk, hkc⟩ := KG.out i k hik
      have hkl := HKL.out k (List.mem_of_getElem? hik)
      have c0 : wr.cell? ⟨b, 0, none⟩ = some (.map (some g)) := blk_cell (UR.out.get ST.out.blk (by simp)) rfl
      have c1 := cell_upd hkc UR.out (by simp)
      have hx64 := join_step (k := k) OK.out
      have hl1 : (Instr.lookup 113 (.map (some g)) (.string (strOf k)) false).run Tryz.prog wr = .ok (.string (strOf ((mfind m k).getD []))) wr := MapKind.look1 (MapKind.is_upd_nil ST.out.map UR.out) (k := k) (show k.length ≤ maxLen by unfold maxLen; omega)
      obtain ⟨x, hx⟩ : ∃ x, (mfind m k).getD [] = x := ⟨_, rfl⟩
      have hjn := join_next (m := m) hik
      rw [hx] at hl1 hx64 hjn
      have JN := hide hjn
      have hbl2 : (joinM m (c.keys.take i)).length ≤ 65 * 16 := by
        have h1 := join_len OK.out (c.keys.take i)
        have h2 : (c.keys.take i).length ≤ 16 := by simp; omega
        omega
      clear hik hkc hx hjn
      have hif : ¬ 9223372036854775807 < (strOf x).size + (⟨#[44]⟩ : ByteArray).size := by
        rw [strOf_size]
        show ¬ _ < x.length + 1
        omega
      have hap : strOf x ++ ⟨#[44]⟩ = strOf (x ++ [44]) := by rw [← strOf_append]; rfl
      have HAP := hide hap
      clear hap
      go_wp2_with fail
      rw [HAP.out]
      refine (wstr_any (B + 2) (B + 1 + 1) _ (strOf (x ++ [44])) wr BI.out (by rw [strOf_size]; simp [Lib.byteCells]; omega) (by omega)).mono ?_
      rintro e w2 ⟨rfl, h2b, hb2⟩
      rw [bytes_app, ← JN.out] at h2b
      have BI2 := hide h2b; have BE2 := hide (BE.out.trans hb2)
      clear h2b hb2 hif
      go_wp2_with fail
      go_roundw
      case rel => exact ⟨i + 1, by omega, by go_num, .inr BI2.out, BE2.out⟩
      case measure => simp [RowKit.intOf]; omega
    · have d5 : decide ((i : Int) < c.keys.length) = false := by simp; omega
      have d5' : decide (i < c.keys.length) = false := by simpa using hlt
      have hie : c.keys.take i = c.keys := List.take_of_length_le (by omega)
      rw [hie] at BI
      clear hlt hie
      go_wp2_with fail
      refine (sh_Builder_String_any_f (B + 2) (B + 1 + 1) (joinM m c.keys) wr (Lib.IsBuilderF.of BI.out) (by omega)).mono ?_
      rintro e w2 ⟨rfl, -, hb2⟩
      have BE2 := hide (BE.out.trans hb2)
      clear hb2
      go_wp2_with fail
      refine (done_any (joinM m c.keys) w2).mono ?_
      rintro e w3 ⟨rfl, hu3⟩
      unfold rpv
      have CR3 := hide (hu3.get ((BE2.out.block (B + 1) (by omega)).trans CR.out) (by simp))
      have U3 := hide ((upd_below U1.out BE2.out (by have := KB.out; omega)).trans hu3)
      obtain ⟨z0, z1, f0, f1, z2, f2⟩ := res_facts CR3.out
      clear hu3
      go_wp2_with fail
      have hW := upd2 w3 (B + 1) (.int .u8 0) (.string (strOf (joinM m c.keys)))
      have hBs := KB.out
      exact ret_rp (stored2 CR3.out) rfl rfl rfl ⟨rfl, U3.out.trans_new hW (fun k hk => .inr (by simp at hk; omega))⟩
theorem dels_next {m : KM} {ks : List (List UInt8)} {i : Nat} {k : List UInt8} (h : ks[i]? = some k) : delsM m (ks.take (i + 1)) = mdel (delsM m (ks.take i)) k := by
  rw [List.take_add_one, h]
  unfold delsM
  rw [List.foldl_append]
  rfl
set_option maxRecDepth 100000 in
set_option maxHeartbeats 2000000 in
theorem clear_any {T : Nat → Prop} {v : Value} {c : Cm} {b g : Nat} {m : KM} (w : World) (he : EnvAt w) (h : StIs w b g m) (hc : CmAt w T v c) (hk : Cm.Good c) (hl : m.length ≤ 1000000) :
    Calls Tryz.prog 88 #[.pointer (some ⟨b, 0, none⟩), v] w fun e w' => e = .returned (rpv ⟨0, Lib.itoa ((m.length : Int) - ((delsM m c.keys).length : Int))⟩) ∧ StIs w' b g (delsM m c.keys) ∧ Upd [g] w w' := by
  have ENV := hide he
  clear he
  obtain ⟨fit, ks, rfl, hks⟩ := hc
  obtain ⟨xo, cp, rfl, h1, h2, hget⟩ := hks.get
  have hkl := Good.keys hk
  have ST := hide h; have KG := hide hget; have FIT := hide fit; have GK := hide hk; have HKL := hide hkl.2.2
  have hk16 := hkl.1
  have hgl := MapKind.is_lt h.map
  have hbl := blk_lt h.blk
  simp only [maxLen] at h2
  clear h hget hks hk fit hkl
  unfold cmv
  simp only [strV]
  obtain ⟨q, hq⟩ : ∃ q, delsM m c.keys = q := ⟨_, rfl⟩
  have hql : q.length ≤ m.length := by rw [← hq]; exact dels_len m c.keys
  rw [hq]
  obtain ⟨z, hz⟩ : ∃ z, (m.length : Int) - (q.length : Int) = z := ⟨_, rfl⟩
  rw [hz]
  have HZ := hide hz; have HQ := hide hq
  have hz2 : -9223372036854775808 ≤ z ∧ z ≤ 9223372036854775807 := by omega
  clear hq hz
  go_enter Tryz.func88, Tryz.ntmps88
  go_upto_region 1 with fail
  have hB := blk_alloc (blk_new w (.cells (cmc c (.slice xo c.keys.length cp)).toArray TCmd)) (.cells #[.int .u8 0, .string ⟨#[]⟩] TRp)
  have hR := blk_new (w.alloc (.cells (cmc c (.slice xo c.keys.length cp)).toArray TCmd)) (.cells #[.int .u8 0, .string ⟨#[]⟩] TRp)
  have hu := ((Upd.refl [] w).alloc (.cells (cmc c (.slice xo c.keys.length cp)).toArray TCmd)).alloc (.cells #[.int .u8 0, .string ⟨#[]⟩] TRp)
  simp only [World.size_alloc] at hR
  have hsz : ((w.alloc (.cells (cmc c (.slice xo c.keys.length cp)).toArray TCmd)).alloc (.cells #[.int .u8 0, .string ⟨#[]⟩] TRp)).heap.size = w.heap.size + 2 := by simp
  change Code.wp _ _ _ _ ((w.alloc (.cells (cmc c (.slice xo c.keys.length cp)).toArray TCmd)).alloc (.cells #[.int .u8 0, .string ⟨#[]⟩] TRp))
  generalize (w.alloc (.cells (cmc c (.slice xo c.keys.length cp)).toArray TCmd)).alloc (.cells #[.int .u8 0, .string ⟨#[]⟩] TRp) = w1 at *
  have CB := hide hB; have CR := hide hR; have U1 := hide hu; have S1 := hide (ST.out.upd_nil hu)
  obtain ⟨B, hBs⟩ : ∃ B, w.heap.size = B := ⟨_, rfl⟩
  have KB := hide hBs
  rw [hBs] at hsz CB CR ⊢
  have hneB : B ≠ g := by have := KB.out; omega
  have hneR : B + 1 ≠ g := by have := KB.out; omega
  clear hB hR hu hBs
  have b3 : w1.cell? ⟨B, 3, none⟩ = some (.slice xo c.keys.length cp) := blk_cell CB.out rfl
  have c0 : w1.cell? ⟨b, 0, none⟩ = some (.map (some g)) := blk_cell S1.out.blk rfl
  have n1 : ∀ ty, (Builtin.len_ #[113] ty #[.map (some g)]).run Tryz.prog w1 = .ok (.int .i64 (m.length : Int)) w1 := fun ty => MapKind.len S1.out.map ty
  go_wp2_with fail
  go_loopw [16] (fun si wr => ∃ i : Nat, i ≤ c.keys.length ∧ si = .int .i64 i ∧ StIs wr b g (delsM m (c.keys.take i)) ∧ Upd [g] w1 wr) (fun si _ => c.keys.length - (RowKit.intOf si).toNat)
  case atStart => exact ⟨0, by omega, rfl, S1.out, Upd.refl _ _⟩
  case round =>
    obtain ⟨i, hi, rfl, hsi, hui⟩ := hrel
    have SI := hide hsi; have UI := hide hui
    have UR := hide ((U1.out.mono (by simp)).trans hui)
    clear hsi hui n1 c0 b3
    by_cases hlt : i < c.keys.length
    · have d5 : decide ((i : Int) < c.keys.length) = true := by simp; omega
      have d5' : decide (i < c.keys.length) = true := by simpa using hlt
      obtain ⟨k, hik⟩ : ∃ k, c.keys[i]? = some k := ⟨_, List.getElem?_eq_getElem hlt⟩
      obtain ⟨bk, ok, rfl, hbk, hkc⟩ := KG.out i k hik
      have hkl := HKL.out k (List.mem_of_getElem? hik)
      have c0 : wr.cell? ⟨b, 0, none⟩ = some (.map (some g)) := blk_cell SI.out.blk rfl
      have hneK : bk ≠ g := cell_ne hkc ST.out.map
      have c1 := cell_upd hkc UR.out (by simpa using hneK)
      obtain ⟨w2, hr, hm2, hu2⟩ := MapKind.drop SI.out.map (k := k) (show k.length ≤ maxLen by unfold maxLen; omega) 0
      have hr' : (Builtin.delete_ #[113, TStr] 0 #[.map (some g), .string (strOf k)]).run Tryz.prog wr = .ok (.tuple #[]) w2 := hr
      rw [← dels_next hik] at hm2
      have S2 := hide (SI.out.turn hu2 hm2); have U2 := hide (UI.out.trans hu2)
      clear hr hik hkc hm2 hu2
      go_wp2_with fail
      go_roundw
      case rel => exact ⟨i + 1, by omega, by go_num, S2.out, U2.out⟩
      case measure => simp [RowKit.intOf]; omega
    · have d5 : decide ((i : Int) < c.keys.length) = false := by simp; omega
      have d5' : decide (i < c.keys.length) = false := by simpa using hlt
      have hie : c.keys.take i = c.keys := List.take_of_length_le (by omega)
      rw [hie, HQ.out] at SI
      have c0 : wr.cell? ⟨b, 0, none⟩ = some (.map (some g)) := blk_cell SI.out.blk rfl
      have n1 : ∀ ty, (Builtin.len_ #[113] ty #[.map (some g)]).run Tryz.prog wr = .ok (.int .i64 (q.length : Int)) wr := fun ty => MapKind.len SI.out.map ty
      have hwr : RowKit.wrap64 ((m.length : Int) - (q.length : Int)) = z := by rw [← HZ.out]; unfold RowKit.wrap64; omega
      have CRr := hide (UI.out.get CR.out (by simpa using hneR))
      have ENVr := hide (EnvAt.upd_map ENV.out ST.out.map UR.out)
      clear hlt hie
      go_wp2_with fail
      rw [HZ.out]
      refine (itoa_any wr ENVr.out hz2.1 hz2.2).mono ?_
      rintro e w2 ⟨rfl, hu2⟩
      have S2 := hide (SI.out.upd_nil hu2); have CR2 := hide (hu2.get CRr.out (by simp)); have U2 := hide (UR.out.trans (hu2.mono (by simp)))
      clear hu2 n1 c0
      go_wp2_with fail
      refine (done_any (Lib.itoa z) w2).mono ?_
      rintro e w3 ⟨rfl, hu3⟩
      unfold rpv
      have S3 := hide (S2.out.upd_nil hu3); have CR3 := hide (hu3.get CR2.out (by simp)); have U3 := hide (U2.out.trans (hu3.mono (by simp)))
      obtain ⟨z0, z1, f0, f1, z2, f2⟩ := res_facts CR3.out
      clear hu3
      go_wp2_with fail
      have hW := upd2 w3 (B + 1) (.int .u8 0) (.string (strOf (Lib.itoa z)))
      have hBs := KB.out
      exact ret_rp (stored2 CR3.out) rfl rfl rfl ⟨rfl, S3.out.upd hW (by simp; omega) (by simp; omega), U3.out.trans_new hW (fun k hk => .inr (by simp at hk; omega))⟩
end Go.Proofs.YthpnnffogbjhpaaGreatDoor.Kv
