/- SgF, SgX in one text. -/
import Derived.Test.YtanjnhohfcgapaaGreatDoorSgD
import Derived.Test.YtanjnhohfcgapaaGreatDoorTrSc
import Derived.Test.YtanjnhohfcgapaaGreatDoorKvR
import Derived.Test.YtanjnhohfcgapaaGreatDoorTrV
import Derived.Test.YtanjnhohfcgapaaGreatDoorGenAll
import Derived.Laws.CopyRow
set_option linter.unusedSimpArgs false
set_option linter.unusedVariables false
set_option linter.unnecessarySimpa false
namespace Go.Proofs.YtanjnhohfcgapaaGreatDoor.Sg
open Go.RowKit Go.Proofs.YtanjnhohfcgapaaGreatDoor.Crc Go.Proofs.YtanjnhohfcgapaaGreatDoor.Cm Go.Proofs.YtanjnhohfcgapaaGreatDoor.Tr Go.Proofs.YtanjnhohfcgapaaGreatDoor.Kv Go.Proofs.YtanjnhohfcgapaaGreatDoor.Au
set_option linter.unusedSimpArgs false
set_option linter.unusedVariables false

theorem cmc_cells {w : World} {b : Nat} {c : Cm} {xk : Option Addr} {n ck : Nat} {t : TypeId} (h : w.heap[b]? = some (.cells (cmc c (.slice xk n ck)).toArray t (0, 0))) :
    w.cell? ⟨b, 0, none⟩ = some (.int .u32 (c.client : Int)) ∧ w.cell? ⟨b, 1, none⟩ = some (.int .u32 (c.seq : Int)) ∧ w.cell? ⟨b, 2, none⟩ = some (.int .u8 (c.kind : Int)) ∧ w.cell? ⟨b, 3, none⟩ = some (.slice xk n ck) ∧ w.cell? ⟨b, 4, none⟩ = some (.string (strOf c.old)) ∧ w.cell? ⟨b, 5, none⟩ = some (.string (strOf c.new)) ∧ w.cell? ⟨b, 6, none⟩ = some (.int .i64 c.n) :=
  ⟨blk_cell h rfl, blk_cell h rfl, blk_cell h rfl, blk_cell h rfl, blk_cell h rfl, blk_cell h rfl, blk_cell h rfl⟩
set_option maxRecDepth 100000 in
set_option maxHeartbeats 2000000 in
theorem same1_any {T U : Nat → Prop} {B : Nat} {a c : Cm} {xa xk : Option Addr} {ca ck : Nat} (w : World) (ha : Ky w U (.slice xa a.keys.length ca) a) (hB : w.heap[B]? = some (.cells (cmc c (.slice xk c.keys.length ck)).toArray Cm.TCmd (0, 0))) (hk : Ky w T (.slice xk c.keys.length ck) c) :
    Calls Tryz.prog 129 #[cmv a (.slice xa a.keys.length ca), .pointer (some ⟨B, 0, none⟩)] w fun e w' => e = .returned (.bool (decide (a = c))) ∧ Upd [] w w' := by
  have HA := hide ha; have HB := hide hB; have HK := hide hk
  have hBl := blk_lt hB
  clear ha hB hk
  obtain ⟨r, hr⟩ : ∃ r, decide (a = c) = r := ⟨_, rfl⟩
  rw [hr]
  have HR := hide hr
  clear hr
  unfold cmv
  simp only [strV]
  go_enter Tryz.func129, Tryz.ntmps129
  go_upto_region 1 with fail
  have hN := blk_new w (.cells (cmc a (.slice xa a.keys.length ca)).toArray Cm.TCmd)
  have hal := (Upd.refl [] w).alloc (.cells (cmc a (.slice xa a.keys.length ca)).toArray Cm.TCmd)
  change Code.wp _ _ _ _ (w.alloc (.cells (cmc a (.slice xa a.keys.length ca)).toArray Cm.TCmd))
  generalize w.alloc (.cells (cmc a (.slice xa a.keys.length ca)).toArray Cm.TCmd) = w1 at *
  obtain ⟨N, hNn⟩ : ∃ N, w.heap.size = N := ⟨_, rfl⟩
  rw [hNn] at hN hBl ⊢
  obtain ⟨x0, x1, x2, x3, x4, x5, x6⟩ := cmc_cells hN
  obtain ⟨y0, y1, y2, y3, y4, y5, y6⟩ := cmc_cells (hal.get HB.out (by simp))
  have A1 := hide (HA.out.upd hal (by simp)); have K1 := hide (HK.out.upd hal (by simp)); have U1 := hide hal
  have hs := csame_any (va := cmv a (.slice xa a.keys.length ca)) (vb := cmv c (.slice xk c.keys.length ck)) w1 A1.out.at K1.out.at
  rw [HR.out] at hs
  have HS := hide hs
  clear hN hNn hal hs
  go_wp2_with fail
  refine HS.out.mono ?_
  rintro e w2 ⟨rfl, hu⟩
  have U2 := hide (U1.out.trans hu)
  clear hu x0 x1 x2 x3 x4 x5 x6 y0 y1 y2 y3 y4 y5 y6
  go_wp2_with fail
  go_ret
  exact ⟨rfl, U2.out⟩
def idxV (l : List Cm) (c : Cm) : Int := match l.findIdx? fun w => decide (w = c) with
  | none => -1
  | some k => (k : Int)
theorem idxV_some {l : List Cm} {c : Cm} {k : Nat} (h : l[k]? = some c) (hn : ∀ j, j < k → l[j]? ≠ some c) : l.findIdx? (fun w => decide (w = c)) = some k := by
  obtain ⟨hk, hc⟩ := List.getElem?_eq_some_iff.1 h
  rw [List.findIdx?_eq_some_iff_getElem]
  refine ⟨hk, by simpa using hc, fun j hj => ?_⟩
  have := hn j hj
  rw [List.getElem?_eq_getElem (by omega)] at this
  simpa using this
theorem idxV_none {l : List Cm} {c : Cm} (hn : ∀ j, j < l.length → l[j]? ≠ some c) : l.findIdx? (fun w => decide (w = c)) = none := by
  rw [List.findIdx?_eq_none_iff]
  intro x hx
  obtain ⟨j, hj, hx⟩ := List.getElem_of_mem hx
  have := hn j hj
  rw [List.getElem?_eq_getElem hj] at this
  simp only [decide_eq_false_iff_not]
  rintro rfl
  exact this (by rw [hx])
theorem cmKs : (@Kv.cmK) = (@Tr.cmK) := rfl
set_option maxRecDepth 100000 in
set_option maxHeartbeats 2000000 in
theorem index_any {T U : Nat → Prop} {B : Nat} {l : List Cm} {c : Cm} {v : Value} {xk : Option Addr} {ck : Nat} (w : World) (hl : Tr.cmK.row w U v l) (hB : w.heap[B]? = some (.cells (cmc c (.slice xk c.keys.length ck)).toArray Cm.TCmd (0, 0))) (hk : Ky w T (.slice xk c.keys.length ck) c) (hn : l.length ≤ 1000000) :
    Calls Tryz.prog 128 #[v, .func (.func 129) #[] #[.pointer (some ⟨B, 0, none⟩)]] w fun e w' => e = .returned (.int .i64 (idxV l c)) ∧ Upd [] w w' := by
  obtain ⟨xo, cp, rfl, h1, h2, hget⟩ := Kv.cm_get (show Kv.cmK.row w U v l from hl)
  have HL := hide hget; have HB := hide hB; have HK := hide hk
  simp only [maxLen] at h2
  clear hl hB hk hget
  go_enter Tryz.func128, Tryz.ntmps128
  go_wp2_with fail
  go_loopw [8] (fun si wx => ∃ i : Nat, i ≤ l.length ∧ si = .int .i64 i ∧ Upd [] w wx ∧ ∀ j, j < i → l[j]? ≠ some c) (fun si wx => l.length - (RowKit.intOf si).toNat)
  case atStart => exact ⟨0, by omega, rfl, Upd.refl _ _, fun j hj => absurd hj (Nat.not_lt_zero _)⟩
  case round =>
    obtain ⟨i, hi, rfl, hu, hno⟩ := hrel
    have UU := hide hu; have NO := hide hno
    clear hu hno
    by_cases hlt : i < l.length
    · have d1 : decide ((i : Int) < l.length) = true := by simp; omega
      have d1' : decide (i < l.length) = true := by simpa using hlt
      obtain ⟨d, hd⟩ : ∃ d, l[i]? = some d := ⟨_, List.getElem?_eq_getElem hlt⟩
      obtain ⟨b, off, ka, kc, rfl, hbl, hT, fit, hks, hc7⟩ := HL.out i d hd
      obtain ⟨x0, x1, x2, x3, x4, x5, x6⟩ := hc7.upd UU.out hbl (by simp)
      have KD := hide (show Ky wr U (.slice ka d.keys.length kc) d from ⟨fit, hks.upd UU.out (by simp)⟩)
      have HD := hide hd
      clear hbl hT fit hks hc7 hd
      go_wp2_with fail
      obtain ⟨r, hr⟩ : ∃ r, decide (d = c) = r := ⟨_, rfl⟩
      have hs := same1_any wr KD.out (UU.out.get HB.out (by simp)) (HK.out.upd UU.out (by simp))
      rw [hr] at hs
      refine hs.mono ?_
      rintro e w2 ⟨rfl, hu2⟩
      have U2 := hide (UU.out.trans hu2); have HR := hide hr
      clear hs hu2 hr x0 x1 x2 x3 x4 x5 x6
      cases r with
      | true =>
        go_wp2_with fail
        go_ret
        have e : d = c := by simpa using HR.out
        have := idxV_some (by rw [HD.out, e]) NO.out
        unfold idxV
        rw [this]
        exact ⟨rfl, U2.out⟩
      | false =>
        go_wp2_with fail
        go_roundw
        case rel =>
          have e : d ≠ c := by simpa using HR.out
          refine ⟨i + 1, by omega, by go_num, U2.out, fun j hj => ?_⟩
          by_cases hji : j = i
          · subst hji; rw [HD.out]; exact fun h => e (by injection h)
          · exact NO.out j (by omega)
        case measure => simp [RowKit.intOf]; omega
    · have d1 : decide ((i : Int) < l.length) = false := by simp; omega
      have d1' : decide (i < l.length) = false := by simp; omega
      go_wp2_with fail
      go_ret
      have := idxV_none (c := c) fun j hj => NO.out j (by omega)
      unfold idxV
      rw [this]
      exact ⟨rfl, UU.out⟩
end Go.Proofs.YtanjnhohfcgapaaGreatDoor.Sg
namespace Go.Proofs.YtanjnhohfcgapaaGreatDoor.Sg
open Go.RowKit Go.Proofs.YtanjnhohfcgapaaGreatDoor.Crc Go.Proofs.YtanjnhohfcgapaaGreatDoor.Cm Go.Proofs.YtanjnhohfcgapaaGreatDoor.Tr
set_option linter.unusedSimpArgs false
set_option linter.unusedVariables false

theorem run_cutz_lhm {P : Program} (t e : TypeId) (z : Nat) (ht : P.underlying t = some (.slice e)) (hz : ∀ w, (sizeOf e).run P w = .ok z w) (xo : Option Addr) (m c l h q : Nat) (i j k : Int) (hi : i = l) (hj : j = h) (hk : k = q) (h1 : l ≤ h) (h2 : h ≤ q) (h3 : q ≤ c) (w : World) :
    (Instr.slice t (.slice xo m c) (some (.int .i64 i)) (some (.int .i64 j)) (some (.int .i64 k))).run P w = .ok (.slice (cutZ z xo l q) (h - l) (q - l)) w := by
  subst hi; subst hj; subst hk
  have hel : P.elem t = e := by simp [Program.elem, ht]
  rw [run_slice_lhm (P := P) w t xo m c (by rw [hel]; exact ht) .i64 .i64 .i64 l h q (by omega) (by omega) (by omega) (by omega), hel, hz]
  simp [Result.andThen, sliced, cutZ]
/-- 'clear' of one struct in a slice. -/
theorem run_clear_one {P : Program} (w : World) (t e ty : TypeId) (z : Value) (ht : P.underlying t = some (.slice e)) (hv : ∀ w, (zeroValue e).run P w = .ok z w) (g o c : Nat) (cur : Array Value) (hg : w.heap[g]? = some (.cells cur e (0, 0)))
    (hfit : o + z.cells.size ≤ cur.size) (h1 : ∀ v ∈ z.cells.toList, v.oneCell' = true) :
    (Builtin.clear_ #[t] ty #[.slice (some ⟨g, o, none⟩) 1 c]).run P w = .ok (.tuple #[]) (w.setRow g (cur.toList.take o ++ z.cells.toList ++ cur.toList.drop (o + z.cells.size)).toArray) := by
  have hzc : (Builtin.zeroCells z.cells 1).toList = z.cells.toList := by
    simp [Builtin.zeroCells]
    apply List.ext_getElem
    · simp
    · intro i h1 h2
      simp at h1 h2 ⊢
      rw [getElem!_pos z.cells _ (Nat.mod_lt _ (by omega))]
      congr 1
      exact Nat.mod_eq_of_lt h2
  have hst := run_storeCells_at P g o e z.cells.toList 0 cur w hg (by simpa using hfit) h1
  simp only [Nat.add_zero, Array.length_toList] at hst
  simp [Builtin.clear_, run_underlying ht, hv, hzc, hst]
theorem sizeC (w : World) : (sizeOf TCmd).run Tryz.prog w = .ok 7 w := by kernel_rfl
theorem zeroC (w : World) : (zeroValue TCmd).run Tryz.prog w = .ok (.agg #[.int .u32 0, .int .u32 0, .int .u8 0, .slice none 0 0, .string ⟨#[]⟩, .string ⟨#[]⟩, .int .i64 0]) w := by kernel_rfl
theorem Each.erase {X : Type} {P : X → List Value → Prop} {l : List X} {css : List (List Value)} (h : Each P l css) (k : Nat) : Each P (l.eraseIdx k) (css.eraseIdx k) := by
  rw [List.eraseIdx_eq_take_drop_succ, List.eraseIdx_eq_take_drop_succ]
  exact (h.take k).append (h.drop (k + 1))
theorem flat_erase {css : List (List Value)} {z : Nat} (hz : ∀ cs ∈ css, cs.length = z) (k : Nat) : (css.eraseIdx k).flatten = css.flatten.take (k * z) ++ css.flatten.drop ((k + 1) * z) := by
  rw [List.eraseIdx_eq_take_drop_succ, List.flatten_append, flat_take hz, flat_drop hz]
theorem wp_append_eq {P : Program} {o : Oper} {a : Act} {w w' : World} {K : Act → World → Prop} {Q : Exit → Act → World → Prop} (s x : Operand) (t : TypeId) {u v y : Value}
    (ho : o.op = .call { callee := .builtin .append, args := #[s, x], argTypes := #[t, t] }) (hs : a.eval s = u) (hx : a.eval x = v)
    (hr : (Builtin.append_ #[t, t] o.type #[u, v]).run P w = .ok y w') (h : K (a.put o.dst y) w') : Oper.wp P o a w K Q := by
  unfold Oper.wp execOp
  simp only [ho, resolve, invoke, builtin, Sem.run_bind, Sem.run_pure, Result.andThen_ok, List.map_toArray, List.map_cons, List.map_nil, hs, hx, hr]
  exact h
set_option maxRecDepth 100000 in
set_option maxHeartbeats 2000000 in
/-- What is left in place. -/
theorem delete_any {P : Cm → List Value → Prop} {l : List Cm} {base n cap k : Nat} {ao : Option Addr} (w : World) (h : Own w base TCmd 7 P (.slice ao n cap) l) (hl : l.length = n) (hk : k < n) (hn : n ≤ 1000000) :
    Calls Tryz.prog 131 #[.slice ao n cap, .int .i64 (k : Int), .int .i64 ((k : Int) + 1)] w fun e w' => e = .returned (.slice ao (n - 1) cap) ∧ Own w' base TCmd 7 P (.slice ao (n - 1) cap) (l.eraseIdx k) ∧ Upd (Value.slice ao n cap).ownBlock.toList w w' := by
  obtain ⟨css, he, hcs, how⟩ := h
  have hfl := how.1
  obtain ⟨g, cap', cur, e1, hbg, hg, hnc, hcm, hsz, htk⟩ := how.2.resolve_left (fun h => by rw [hl] at h; omega)
  obtain ⟨e2, -, e4⟩ : ao = some ⟨g, 0, none⟩ ∧ n = l.length ∧ cap = cap' := by simpa using e1
  subst e2 e4
  clear e1
  rw [hl] at htk hnc
  have hlen : css.length = n := by rw [he.len, hl]
  have hz : ∀ cs ∈ css, cs.length = 7 := fun cs hc => (hcs cs hc).1
  have HG := hide hg; have HE := hide he; have HCS := hide hcs; have HTK := hide htk; have HZ := hide hz; have HL := hide hl; have HFL := hide (show css.flatten.length = n * 7 by rw [hfl, hl])
  have HSZ := hide hsz; have HLEN := hide hlen; have HBG := hide hbg
  simp only [maxLen] at hcm
  clear hg he hcs htk hz hl how hfl hsz hlen hbg
  obtain ⟨i1, hi1, iz0, iz1, iz2⟩ := info_parts infoC
  have w0 : IntKind.i64.wrap ((n : Int) - 1) = (n : Int) - 1 := IntWalk.i64_in _ (by omega)
  -- behind the append
  have hfit1 : k * 7 + (css.flatten.drop ((k + 1) * 7)).length ≤ cur.size := by
    rw [List.length_drop, HFL.out, HSZ.out]
    have : n * 7 ≤ cap * 7 := Nat.mul_le_mul_right _ hnc
    omega
  have CUT := hide fun (wx : World) => run_cutz_lhm 31 TCmd 7 Tryz.underlying31 sizeC (some ⟨g, 0, none⟩) n cap k (k + 1) n (k : Int) ((k : Int) + 1) (n : Int) rfl (by omega) rfl (by omega) (by omega) hnc wx
  have CH := hide fun (wx : World) => run_cutz_h 31 TCmd 7 Tryz.underlying31 sizeC (some ⟨g, 0, none⟩) n cap k (k : Int) rfl (by omega) wx
  have CL := hide fun (wx : World) => run_cutz_l 31 TCmd 7 Tryz.underlying31 sizeC (some ⟨g, 0, none⟩) n cap (k + 1) ((k : Int) + 1) (by omega) (by omega) wx
  have CT := hide fun (wx : World) => run_cutz_lh 31 TCmd 7 Tryz.underlying31 sizeC (some ⟨g, 0, none⟩) (n - 1) cap (n - 1) n ((n - 1 : Nat) : Int) (n : Int) rfl rfl (by omega) hnc wx
  have q1 : ((k : Int) == (k : Int) + 1) = false := by simp; omega
  go_enter Tryz.func131, Tryz.ntmps131
  have cut := CUT.out w
  go_upto_region 5 with fail
  clear cut
  refine wp_region_z (fun _ => True) 99 (by kernel_rfl) ?_
  have S0 : True := trivial
  refine zE 0 rfl (by kernel_rfl) (fun _ _ _ _ h => h) rfl (by exact S0) ?_
  apply Exists.intro
  refine ⟨fun wx hS => ?_, ?_⟩
  · go_simp; rfl
  simp only [Act.put, List.setIfInBounds_toArray, List.set_cons_succ, List.set_cons_zero, List.getElem_toArray, List.getElem_cons_zero]
  refine zE 1 rfl (by kernel_rfl) (fun _ _ _ _ h => h) rfl (by exact S0) ?_
  apply Exists.intro
  refine ⟨fun wx hS => ?_, ?_⟩
  · go_simp; rfl
  simp only [Act.put, zz1, zz2, zz3, zz4, zz5, zz6]
  refine zE 2 rfl (by kernel_rfl) (fun _ _ _ _ h => h) rfl (by exact S0) ?_
  apply Exists.intro
  refine ⟨fun wx hS => ?_, ?_⟩
  · have c0 := CH.out wx; go_simp; rfl
  simp only [Act.put, zz1, zz2, zz3, zz4, zz5, zz6]
  refine zE 3 rfl (by kernel_rfl) (fun _ _ _ _ h => h) rfl (by exact S0) ?_
  apply Exists.intro
  refine ⟨fun wx hS => ?_, ?_⟩
  · go_simp; rfl
  simp only [Act.put, zz1, zz2, zz3, zz4, zz5, zz6]
  refine zE 4 rfl (by kernel_rfl) (fun _ _ _ _ h => h) rfl (by exact S0) ?_
  apply Exists.intro
  refine ⟨fun wx hS => ?_, ?_⟩
  · go_simp; rfl
  simp only [Act.put, zz1, zz2, zz3, zz4, zz5, zz6]
  refine zE 5 rfl (by kernel_rfl) (fun _ _ _ _ h => h) rfl (by exact S0) ?_
  apply Exists.intro
  refine ⟨fun wx hS => ?_, ?_⟩
  · have c0 := CL.out wx; go_simp; rfl
  simp only [Act.put, zz1, zz2, zz3, zz4, zz5, zz6]
  refine wpAnyZ_one 6 (by kernel_rfl) rfl rfl (fun K hK => ?_)
  try simp only [List.getElem_toArray, List.getElem_cons_succ, List.getElem_cons_zero]
  have hcut : cutZ 7 (some ⟨g, 0, none⟩) (k + 1) cap = if cap = k + 1 then some ⟨g, 0, none⟩ else some ⟨g, (k + 1) * 7, none⟩ := by
    unfold cutZ
    split
    · rfl
    · rw [Option.map_some, add_plain]
  have hnews : ∀ a, cutZ 7 (some ⟨g, 0, none⟩) (k + 1) cap = some a → ∀ j u, (css.flatten.drop ((k + 1) * 7))[j]? = some u → (w.drewN 1).cell? (a.add j) = some u := fun a ha j u hj => by
    rw [List.getElem?_drop, ← HTK.out, List.getElem?_take] at hj
    split at hj
    · rename_i hlt
      have hne : cap ≠ k + 1 := fun e => by subst e; omega
      rw [hcut, if_neg hne] at ha
      cases ha
      have : (⟨g, (k + 1) * 7, none⟩ : Addr).add j = ⟨g, (k + 1) * 7 + j, none⟩ := by
        unfold Addr.add
        split <;> simp_all
      rw [this]
      exact blk_cell (w := w.drewN 1) HG.out (by simpa using hj)
    · cases hj
  obtain ⟨a, ha⟩ : ∃ a, cutZ 7 (some ⟨g, 0, none⟩) (k + 1) cap = some a := by rw [hcut]; split <;> exact ⟨_, rfl⟩
  have hr := run_append_room (P := Tryz.prog) (w.drewN 1) 31 31 TCmd i1 Tryz.underlying31 hi1 g k cap cur HG.out a (n - (k + 1)) (cap - (k + 1)) (css.flatten.drop ((k + 1) * 7)) (by rw [List.length_drop, HFL.out, iz1, Nat.sub_mul]) (hnews a ha)
    (fun u hu => by
      obtain ⟨cs, hc, hu'⟩ := List.mem_flatten.1 (List.mem_of_mem_drop hu)
      exact (HCS.out cs hc).2 u hu') (by omega) (by rw [iz1]; exact hfit1)
  rw [iz1, show k + (n - (k + 1)) = n - 1 by omega] at hr
  rw [← ha] at hr
  have HR := hide hr
  clear hr hnews hcut
  refine wp_append_eq _ _ 31 rfl rfl rfl HR.out ?_
  have hb2 := setRow_heap (w.drewN 1) g cur (cur.toList.take (k * 7) ++ css.flatten.drop ((k + 1) * 7) ++ cur.toList.drop (k * 7 + (css.flatten.drop ((k + 1) * 7)).length)).toArray TCmd (0, 0) HG.out
  have hu2 := upd_setRow (w.drewN 1) g (cur.toList.take (k * 7) ++ css.flatten.drop ((k + 1) * 7) ++ cur.toList.drop (k * 7 + (css.flatten.drop ((k + 1) * 7)).length)).toArray
  obtain ⟨cu2, hcu2⟩ : ∃ cu2, (cur.toList.take (k * 7) ++ css.flatten.drop ((k + 1) * 7) ++ cur.toList.drop (k * 7 + (css.flatten.drop ((k + 1) * 7)).length)).toArray = cu2 := ⟨_, rfl⟩
  have hsz2 : cu2.size = cap * 7 := by
    rw [← hcu2, ← HSZ.out]
    simp only [List.size_toArray, List.length_append, List.length_take, List.length_drop, Array.length_toList]
    rw [List.length_drop] at hfit1
    omega
  have htk2 : cu2.toList.take ((n - 1) * 7) = (css.eraseIdx k).flatten := by
    rw [← hcu2, flat_erase HZ.out]
    have e1 : cur.toList.take (k * 7) = css.flatten.take (k * 7) := by
      rw [← HTK.out, List.take_take, Nat.min_eq_left (Nat.mul_le_mul_right _ (by omega))]
    have e2 : (css.flatten.take (k * 7) ++ css.flatten.drop ((k + 1) * 7)).length = (n - 1) * 7 := by
      rw [List.length_append, List.length_take, List.length_drop, HFL.out]
      omega
    simp only [e1, ← e2]
    exact List.take_left
  rw [hcu2] at hb2 hu2 ⊢
  generalize (w.drewN 1).setRow g cu2 = w2 at hb2 hu2 ⊢
  have hu2' : Upd [g] w w2 := ((Upd.refl [g] w).drewN 1).trans hu2
  clear hcu2 HR hfit1 hu2 ha
  have B2 := hide hb2; have U2 := hide hu2'; have TK2 := hide htk2
  clear hb2 hu2' htk2
  refine hK _ _ (.inr trivial) ?_
  clear hK K
  try simp only [Act.put, zz1, zz2, zz3]
  refine zE 7 rfl (by kernel_rfl) (fun _ _ _ _ h => h) rfl (by exact S0) ?_
  apply Exists.intro
  refine ⟨fun wx hS => ?_, ?_⟩
  · go_simp; rfl
  simp only [Act.put, zz1, zz2, zz3, zz4, zz5, zz6]
  refine wpAnyZ_done (by kernel_rfl) ?_ _
  have hct : (Instr.slice 31 (.slice (some ⟨g, 0, none⟩) (n - 1) cap) (some (.int .i64 ((n - 1 : Nat) : Int))) (some (.int .i64 (n : Int))) none).run Tryz.prog w2 = .ok (.slice (some ⟨g, (n - 1) * 7, none⟩) 1 (cap - (n - 1))) w2 := by
    have := CT.out w2
    unfold cutZ at this
    rw [if_neg (show ¬ cap = n - 1 by omega), show n - (n - 1) = 1 by omega, Option.map_some, add_plain] at this
    exact this
  have hfit2 : (n - 1) * 7 + 7 ≤ cu2.size := by
    rw [hsz2]
    have : n * 7 ≤ cap * 7 := Nat.mul_le_mul_right _ hnc
    omega
  have hcl := run_clear_one (P := Tryz.prog) w2 31 TCmd 0 (.agg #[.int .u32 0, .int .u32 0, .int .u8 0, .slice none 0 0, .string ⟨#[]⟩, .string ⟨#[]⟩, .int .i64 0]) Tryz.underlying31 zeroC g ((n - 1) * 7) (cap - (n - 1)) cu2 B2.out hfit2 (by simp [Value.cells, Value.oneCell'])
  have hb3 := setRow_heap w2 g cu2 (cu2.toList.take ((n - 1) * 7) ++ (Value.agg #[.int .u32 0, .int .u32 0, .int .u8 0, .slice none 0 0, .string ⟨#[]⟩, .string ⟨#[]⟩, .int .i64 0]).cells.toList ++ cu2.toList.drop ((n - 1) * 7 + (Value.agg #[.int .u32 0, .int .u32 0, .int .u8 0, .slice none 0 0, .string ⟨#[]⟩, .string ⟨#[]⟩, .int .i64 0]).cells.size)).toArray TCmd (0, 0) B2.out
  have hu3 := upd_setRow w2 g (cu2.toList.take ((n - 1) * 7) ++ (Value.agg #[.int .u32 0, .int .u32 0, .int .u8 0, .slice none 0 0, .string ⟨#[]⟩, .string ⟨#[]⟩, .int .i64 0]).cells.toList ++ cu2.toList.drop ((n - 1) * 7 + (Value.agg #[.int .u32 0, .int .u32 0, .int .u8 0, .slice none 0 0, .string ⟨#[]⟩, .string ⟨#[]⟩, .int .i64 0]).cells.size)).toArray
  obtain ⟨cu3, hcu3⟩ : ∃ cu3, (cu2.toList.take ((n - 1) * 7) ++ (Value.agg #[.int .u32 0, .int .u32 0, .int .u8 0, .slice none 0 0, .string ⟨#[]⟩, .string ⟨#[]⟩, .int .i64 0]).cells.toList ++ cu2.toList.drop ((n - 1) * 7 + (Value.agg #[.int .u32 0, .int .u32 0, .int .u8 0, .slice none 0 0, .string ⟨#[]⟩, .string ⟨#[]⟩, .int .i64 0]).cells.size)).toArray = cu3 := ⟨_, rfl⟩
  have hz7 : (Value.agg #[.int .u32 0, .int .u32 0, .int .u8 0, .slice none 0 0, .string ⟨#[]⟩, .string ⟨#[]⟩, .int .i64 0]).cells.size = 7 := rfl
  have hsz3 : cu3.size = cap * 7 := by
    rw [← hcu3, ← hsz2, hz7]
    simp only [List.size_toArray, List.length_append, List.length_take, List.length_drop, Array.length_toList, hz7]
    omega
  have htk3 : cu3.toList.take ((n - 1) * 7) = (css.eraseIdx k).flatten := by
    rw [← hcu3, ← TK2.out]
    have e2 : (cu2.toList.take ((n - 1) * 7)).length = (n - 1) * 7 := by
      rw [List.length_take, Array.length_toList]
      omega
    simp only [List.append_assoc]
    exact List.take_left' e2
  rw [hcu3] at hcl hb3 hu3
  generalize w2.setRow g cu3 = w3 at hcl hb3 hu3
  have HCT := hide hct; have HCL := hide hcl; have B3 := hide hb3; have U3 := hide (U2.out.trans hu3); have TK3 := hide htk3; have SZ3 := hide hsz3
  clear hct hcl hb3 hu3 htk3 hcu3 hsz3 hz7 hfit2 hsz2 CUT CH CL CT
  have hct := HCT.out; have hcl := HCL.out
  go_wp2_with fail
  go_ret
  refine ⟨rfl, ⟨css.eraseIdx k, Each.erase HE.out k, fun cs hc => HCS.out cs (List.mem_of_mem_eraseIdx hc), ?_, .inr ⟨g, cap, cu3, ?_, HBG.out, B3.out, (by rw [List.length_eraseIdx, HL.out, if_pos hk]; omega), by simp only [maxLen]; exact hcm, SZ3.out, ?_⟩⟩, U3.out⟩
  · rw [← TK3.out, List.length_take, Array.length_toList, SZ3.out, List.length_eraseIdx, HL.out, if_pos hk]
    have : (n - 1) * 7 ≤ cap * 7 := Nat.mul_le_mul_right _ (by omega)
    omega
  · rw [List.length_eraseIdx, HL.out, if_pos hk]
  · rw [List.length_eraseIdx, HL.out, if_pos hk]; exact TK3.out
end Go.Proofs.YtanjnhohfcgapaaGreatDoor.Sg
