/- WvK, WvI, WvX, WvT in one text. -/
import Derived.Test.YthpnnffogbjhpaaGreatDoorKvS
import Derived.Test.YthpnnffogbjhpaaGreatDoorKvPure
import Derived.Test.YthpnnffogbjhpaaGreatDoorGenAll
import Derived.Test.YthpnnffogbjhpaaGreatDoorCmCK
set_option linter.unusedSimpArgs false
set_option linter.unusedVariables false
set_option linter.unnecessarySimpa false
namespace Go.Proofs.YthpnnffogbjhpaaGreatDoor.Kv
set_option linter.unusedSimpArgs false
set_option linter.unusedVariables false
set_option linter.unnecessarySimpa false
open Go.RowKit Go.Lib Go.Proofs.YthpnnffogbjhpaaGreatDoor.Crc Go.Proofs.YthpnnffogbjhpaaGreatDoor.Cm

def nV (n : Nat) : Value := .int .i64 (n : Int)
def nD (n : Nat) : DataW Unit := .lit (.int .i64 (n : Int))
open Classical in
noncomputable def nR (v : Value) : Option (DataW Unit × List MemPlace) := if h : ∃ x, v = nV x then some (nD h.choose, []) else none
theorem nV_inj {x y : Nat} (h : nV x = nV y) : x = y := by
  simp only [nV, Value.int.injEq, true_and] at h
  omega
theorem nD_inj {x y : Nat} (h : nD x = nD y) : x = y := by
  simp only [nD, DataW.lit.injEq, Lit.int.injEq, true_and] at h
  omega
theorem nR_mk (x : Nat) : nR (nV x) = some (nD x, []) := by
  have h : ∃ y, nV x = nV y := ⟨x, rfl⟩
  unfold nR
  rw [dif_pos h, ← nV_inj h.choose_spec]
theorem nR_inv {v : Value} {a : Nat} {ps : List MemPlace} (h : nR v = some (nD a, ps)) : v = nV a := by
  unfold nR at h
  split at h
  · rename_i hx
    simp only [Option.some.injEq, Prod.mk.injEq] at h
    rw [← nD_inj h.1]
    exact hx.choose_spec
  · cases h
theorem zeroN (w : World) : (zeroValue 3).run Tryz.prog w = .ok (nV 0) w := Tryz.zeroValue3 w
/-- The next wave of a key. -/
noncomputable def wsK : MapKind Tryz.prog (List UInt8) Nat where
  t := 205
  kt := TStr
  et := 3
  K := strK
  kv s := .string (strOf s)
  ev := nV
  okk s := s.length ≤ maxLen
  oke _ := True
  dat := nD
  R := nR
  z := 0
  ht := Tryz.underlying205
  keyed := Maps.string_keyed Tryz.underlying9
  hkey {k} h := by
    rw [WideMaps.keyOf_string_mk Tryz.underlying9 (by rw [strOf_size]; exact h), strOf_list]
    rfl
  hR {a} _ := nR_mk a
  inv {v a ps} h := nR_inv h
  okz := trivial
  hz := zeroN
/-- The next wave of a client. -/
noncomputable def wcK : MapKind Tryz.prog Nat Nat where
  t := 206
  kt := 42
  et := 3
  K := cliK
  kv n := .int .u32 (n : Int)
  ev := nV
  okk n := n < 4294967296
  oke _ := True
  dat := nD
  R := nR
  z := 0
  ht := Tryz.underlying206
  keyed := Maps.int_keyed Tryz.underlying42
  hkey {k} h := by
    exact Maps.keyOf_int_mk Tryz.underlying42 (WalkArith.wf_u32 (by omega))
  hR {a} _ := nR_mk a
  inv {v a ps} h := nR_inv h
  okz := trivial
  hz := zeroN
/-- A front: its block, and its maps'. -/
structure FtIs (w : World) (p kg cg : Nat) (f : Ft) : Prop where
  blk : w.heap[p]? = some (.cells #[.map (some kg), .map (some cg), .int .i64 (f.lone : Int), .int .i64 (f.top : Int)] 208 (0, 0))
  ks : wsK.is w kg f.ks
  cs : wcK.is w cg f.cs
  ne : kg ≠ cg
theorem FtIs.nes {w : World} {p kg cg : Nat} {f : Ft} (h : FtIs w p kg cg f) : p ≠ kg ∧ p ≠ cg := by
  constructor
  · rintro rfl
    obtain ⟨es, clock, hb, -⟩ := h.ks
    rw [h.blk] at hb
    cases hb
  · rintro rfl
    obtain ⟨es, clock, hb, -⟩ := h.cs
    rw [h.blk] at hb
    cases hb
theorem FtIs.upd {w w' : World} {p kg cg : Nat} {f : Ft} {S : List Nat} (h : FtIs w p kg cg f) (hu : Upd S w w') (h1 : p ∉ S) (h2 : kg ∉ S) (h3 : cg ∉ S) : FtIs w' p kg cg f :=
  ⟨hu.get h.blk h1, MapKind.is_upd h.ks hu h2, MapKind.is_upd h.cs hu h3, h.ne⟩
theorem FtIs.upd_nil {w w' : World} {p kg cg : Nat} {f : Ft} (h : FtIs w p kg cg f) (hu : Upd [] w w') : FtIs w' p kg cg f := h.upd hu (by simp) (by simp) (by simp)
/-- What is told of a client. -/
theorem ft_look {w : World} {cg : Nat} {t : List (Nat × Nat)} {k : Nat} (h : wcK.is w cg t) (hk : k < 4294967296) :
    (Instr.lookup 206 (.map (some cg)) (.int .u32 (k : Int)) false).run Tryz.prog w = .ok (.int .i64 ((at0 t k : Nat) : Int)) w := by
  have := MapKind.look1 h (k := k) hk
  unfold at0
  exact this
theorem ft_lookk {w : World} {kg : Nat} {t : List (List UInt8 × Nat)} {k : List UInt8} (h : wsK.is w kg t) (hk : k.length ≤ maxLen) :
    (Instr.lookup 205 (.map (some kg)) (.string (strOf k)) false).run Tryz.prog w = .ok (.int .i64 ((at0 t k : Nat) : Int)) w := by
  have := MapKind.look1 h (k := k) hk
  unfold at0
  exact this
theorem ft_put {w w0 : World} {cg k v : Nat} {t : List (Nat × Nat)} (h : wcK.is w cg t) (hk : k < 4294967296) (hl : t.length ≤ 1000000) (hu : Upd [cg] w0 w) :
    ∃ w', (Instr.mapUpdate 206 (.map (some cg)) (.int .u32 (k : Int)) (.int .i64 (v : Int))).run Tryz.prog w = .ok () w' ∧ wcK.is w' cg (mput cliK t k v) ∧ Upd [cg] w0 w' := by
  obtain ⟨w', h1, h2, h3⟩ := MapKind.store h (k := k) (v := v) hk trivial (by unfold maxLen; omega)
  exact ⟨w', h1, h2, hu.trans h3⟩
theorem ft_putk {w w0 : World} {kg v : Nat} {k : List UInt8} {t : List (List UInt8 × Nat)} (h : wsK.is w kg t) (hk : k.length ≤ maxLen) (hl : t.length ≤ 1000000) (hu : Upd [kg] w0 w) :
    ∃ w', (Instr.mapUpdate 205 (.map (some kg)) (.string (strOf k)) (.int .i64 (v : Int))).run Tryz.prog w = .ok () w' ∧ wsK.is w' kg (mput strK t k v) ∧ Upd [kg] w0 w' := by
  obtain ⟨w', h1, h2, h3⟩ := MapKind.store h (k := k) (v := v) hk trivial (by unfold maxLen; omega)
  exact ⟨w', h1, h2, hu.trans h3⟩
end Go.Proofs.YthpnnffogbjhpaaGreatDoor.Kv
namespace Go.Proofs.YthpnnffogbjhpaaGreatDoor.Kv
set_option linter.unusedSimpArgs false
set_option linter.unusedVariables false
set_option linter.unnecessarySimpa false
open Go.RowKit Go.Lib Go.Proofs.YthpnnffogbjhpaaGreatDoor.Crc Go.Proofs.YthpnnffogbjhpaaGreatDoor.Cm

abbrev TInt : TypeId := 3
abbrev TSI : TypeId := 59
theorem infoI : (Tryz.prog.info? TInt).map (fun i => (i.zero, i.size, i.bytes)) = some (some (.int .i64 0), 1, 8) := by kernel_rfl
theorem infoSI : (Tryz.prog.info? TSI).map (fun i => (i.zero, i.size, i.bytes)) = some (some (.slice none 0 0), 1, 24) := by kernel_rfl
theorem partsI {p : Option TypeInfo} {z : Value} {a b : Nat} (h : p.map (fun i => (i.zero, i.size, i.bytes)) = some (some z, a, b)) : ∃ i, p = some i ∧ i.zero = some z ∧ i.size = a ∧ i.bytes = b := by
  cases p with
  | none => cases h
  | some i =>
    simp only [Option.map_some, Option.some.injEq, Prod.mk.injEq] at h
    exact ⟨i, rfl, h.1, h.2.1, h.2.2⟩
theorem sizeI : ∀ w, (sizeOf TInt).run Tryz.prog w = .ok 1 w := fun w => by kernel_rfl
theorem nV_one (l : List Nat) : ∀ u ∈ l.map nV, u.oneCell' = true := by simp [nV, Value.oneCell']
/-- A row of numbers, within the blocks from base on. -/
structure IntsAt (w : World) (base : Nat) (ao : Option Addr) (n cap : Nat) (l : List Nat) : Prop where
  src : SrcAt w ao n cap (l.map nV) 1
  le : n ≤ cap
  mx : cap ≤ maxLen
  lo : ∀ a, ao = some a → base ≤ a.block
theorem IntsAt.len {w : World} {base n cap : Nat} {ao : Option Addr} {l : List Nat} (h : IntsAt w base ao n cap l) : l.length = n := by have := h.src.len; simpa using this
theorem IntsAt.upd {w w' : World} {base n cap : Nat} {ao : Option Addr} {l : List Nat} {S : List Nat} (h : IntsAt w base ao n cap l) (hu : Upd S w w') (hS : ∀ k ∈ S, k < base) : IntsAt w' base ao n cap l :=
  ⟨srcS_upd h.src hu (fun a e _ hm => by have := hS _ hm; have := h.lo a e; omega), h.le, h.mx, h.lo⟩
theorem IntsAt.updF {w w' : World} {base n cap : Nat} {ao : Option Addr} {l : List Nat} {S : List Nat} (h : IntsAt w base ao n cap l) (hu : Upd S w w') (hS : ∀ a, ao = some a → n ≠ 0 → a.block ∉ S) : IntsAt w' base ao n cap l :=
  ⟨srcS_upd h.src hu hS, h.le, h.mx, h.lo⟩
theorem IntsAt.own {w : World} {base n cap : Nat} {ao : Option Addr} {l : List Nat} (h : w.ownsRow base TInt 1 (.slice ao n cap) n (l.map nV)) : IntsAt w base ao n cap l := by
  obtain ⟨ao', cap', e, h1, h2, h3⟩ := owns_slice h
  cases e
  refine ⟨src_own h (nV_one l), h1, h2, fun a e => ?_⟩
  rcases h.2 with ⟨e1, _⟩ | ⟨g, c, cur, e1, h4, _⟩
  · cases e1; cases e
  · cases e1; cases e; exact h4
/-- Its cell j. -/
theorem IntsAt.get {w : World} {base n cap j x : Nat} {ao : Option Addr} {l : List Nat} (h : IntsAt w base ao n cap l) (hj : l[j]? = some x) : ∃ a : Addr, ao = some a ∧ w.cell? (a.add j) = some (.int .i64 (x : Int)) := by
  cases ao with
  | none =>
    have h1 := (h.src.nil rfl).1
    have h2 := h.len
    have := (List.getElem?_eq_some_iff.1 hj).1
    omega
  | some a => exact ⟨a, rfl, h.src.cells a rfl j _ (by rw [List.getElem?_map, hj]; rfl)⟩
theorem add_block (a : Addr) (k : Nat) : (a.add k).block = a.block := by unfold Addr.add; split <;> rfl
/-- What is told apart by its own index: a row that is newer than all that a round may change. -/
theorem IntsAt.keep {w w' : World} {base n cap : Nat} {ao : Option Addr} {l : List Nat} (h : IntsAt w base ao n cap l) (hk : ∀ k, base ≤ k → k < w.heap.size → w'.heap[k]? = w.heap[k]?) : IntsAt w' base ao n cap l := by
  refine ⟨⟨h.src.len, h.src.one, h.src.nil, fun a e j u hj => ?_⟩, h.le, h.mx, h.lo⟩
  have h1 := h.src.cells a e j u hj
  have h2 := World.block_lt_of_cell? w _ h1
  have h3 := h.lo a e
  rw [← h1]
  simp only [World.cell?]
  rw [hk _ (by rw [add_block]; exact h3) h2]
theorem IntsAt.cut {w : World} {base m c l h q : Nat} {xo : Option Addr} {xs : List Nat} (hs : IntsAt w base xo m c xs) (h1 : l ≤ h) (h2 : h ≤ m) (h3 : h ≤ q) (h4 : q ≤ c) :
    IntsAt w base (cutAt xo l q) (h - l) (q - l) ((xs.drop l).take (h - l)) := by
  have hlen := hs.len
  have hmx := hs.mx
  refine ⟨⟨by simp; omega, nV_one _, fun e => ?_, fun a e j u hj => ?_⟩, by omega, by omega, fun a e => ?_⟩
  · have := hs.src.nil (cutAt_none.1 e)
    omega
  · rw [List.getElem?_map, List.getElem?_take, List.getElem?_drop] at hj
    split at hj
    · rename_i hjl
      have hq : q ≠ l := by omega
      unfold cutAt at e
      rw [if_neg hq] at e
      cases xo with
      | none => cases e
      | some a0 =>
        cases e
        have := hs.src.cells a0 rfl (l + j) u (by rw [List.getElem?_map]; exact hj)
        rw [← this, Go.Deep.add_add]
    · cases hj
  · unfold cutAt at e
    split at e
    · exact hs.lo a e
    · cases xo with
      | none => cases e
      | some a0 =>
        cases e
        rw [add_block]
        exact hs.lo a0 rfl
/-- A place is struck out: 'append(l[:k:k], l[k+1:]...)'. -/
theorem run_strike {w : World} {base n cap k : Nat} {ao : Option Addr} {l : List Nat} (h : IntsAt w base ao n cap l) (hk : k < n) (hn : n ≤ 1000) (hb : base ≤ w.heap.size) :
    ∃ ao' cap' w', (Builtin.append_ #[TSI, TSI] TSI #[.slice (cutAt ao 0 k) k k, .slice (cutAt ao (k + 1) cap) (n - (k + 1)) (cap - (k + 1))]).run Tryz.prog w = .ok (.slice ao' (n - 1) cap') w' ∧ IntsAt w' base ao' (n - 1) cap' (l.eraseIdx k) ∧ Upd [] w w' := by
  obtain ⟨i, hi, hz, hsz, hby⟩ := partsI infoI
  have hlen := h.len
  have hle := h.le
  have h1 := h.cut (l := 0) (h := k) (q := k) (Nat.zero_le _) (by omega) (Nat.le_refl _) (by omega)
  have h2 := h.cut (l := k + 1) (h := n) (q := cap) (by omega) (Nat.le_refl _) (by omega) (Nat.le_refl _)
  simp only [Nat.sub_zero, List.drop_zero] at h1
  rw [cutAt_zero] at h1 ⊢
  have e2 : (l.drop (k + 1)).take (n - (k + 1)) = l.drop (k + 1) := List.take_of_length_le (by simp; omega)
  rw [e2] at h2
  obtain ⟨a, rfl⟩ : ∃ a, ao = some a := by
    cases ao with
    | none => have := (h.src.nil rfl).1; omega
    | some a => exact ⟨a, rfl⟩
  have er : l.eraseIdx k = l.take k ++ l.drop (k + 1) := List.eraseIdx_eq_take_drop_succ l k
  obtain ⟨b2, hb2⟩ : ∃ b2, cutAt (some a) (k + 1) cap = some b2 := by
    cases hc : cutAt (some a) (k + 1) cap with
    | none => exact absurd (cutAt_none.1 hc) (by simp)
    | some b => exact ⟨b, rfl⟩
  rw [hb2] at h2 ⊢
  by_cases h0 : n = k + 1
  · subst h0
    have e3 : l.drop (k + 1) = [] := List.drop_eq_nil_of_le (by omega)
    refine ⟨some a, k, w, ?_, ?_, Upd.refl _ _⟩
    · simp [Builtin.append_, run_underlying Tryz.underlying59, sizeOf, typeInfo, hi, Builtin.lenOf, Builtin.firstCells, loadCells, loadCellsFrom, storeCells]
    · rw [er, e3, List.append_nil]
      exact h1
  · have hm : n - (k + 1) ≠ 0 := by omega
    have hr := run_append_grow (P := Tryz.prog) w TSI TSI TInt i (.int .i64 0) Tryz.underlying59 hi hz a k k ((l.take k).map nV) (by rw [hsz]; exact h1.src.len) (h1.src.cells a rfl) b2 (n - (k + 1)) (cap - (k + 1)) ((l.drop (k + 1)).map nV) (by rw [hsz]; exact h2.src.len) (h2.src.cells b2 rfl)
      (by omega) (by omega) (by rw [hby]; exact growslice_fits (by omega) (by omega))
    rw [show k + (n - (k + 1)) = n - 1 by omega] at hr
    have hu : Upd [] w (w.drew.alloc (.cells (((l.take k).map nV).toArray ++ ((l.drop (k + 1)).map nV).toArray ++ Builtin.zeroCells (Value.int .i64 0).cells (grownCap w (n - 1) k TInt - (n - 1))) TInt)) := (Upd.refl [] w).drew.alloc _
    have hB := blk_new w.drew (.cells (((l.take k).map nV).toArray ++ ((l.drop (k + 1)).map nV).toArray ++ Builtin.zeroCells (Value.int .i64 0).cells (grownCap w (n - 1) k TInt - (n - 1))) TInt)
    refine ⟨_, _, _, hr, ⟨⟨?_, nV_one _, by simp, fun a' e j u hj => ?_⟩, ?_, ?_, fun a' e => by cases e; exact hb⟩, hu⟩
    · have hkl : k < l.length := by omega
      simp [List.length_eraseIdx, hkl]; omega
    · cases e
      rw [show (⟨w.heap.size, 0, none⟩ : Addr).add j = ⟨w.heap.size, j, none⟩ by unfold Addr.add; split <;> simp_all]
      refine blk_cell hB ?_
      rw [er, List.map_append] at hj
      have hjl := (List.getElem?_eq_some_iff.1 hj).1
      rw [Array.getElem?_append_left (by simpa using hjl)]
      simpa using hj
    · exact grownCap_ge _ _ _ _
    · exact grownCap_le_maxLen _ _ _ _ (by simp only [maxLen]; omega)
/-! ### rows of rows -/
/-- A row of rows that are the call's own, each another block. -/
structure GrIs (w : World) (base g : Nat) (gs : List (List Nat)) (cs : List Value) : Prop where
  blk : w.heap[g]? = some (.cells cs.toArray TSI (0, 0))
  len : cs.length = gs.length
  row : ∀ (j : Nat) (l : List Nat), gs[j]? = some l → ∃ (ao : Option Addr) (cap : Nat), cs[j]? = some (.slice ao l.length cap) ∧ w.ownsRow base TInt 1 (.slice ao l.length cap) l.length (l.map nV)
  dis : ∀ (j k : Nat) (u v : Value), j ≠ k → cs[j]? = some u → cs[k]? = some v → ∀ b, u.ownBlock = some b → v.ownBlock ≠ some b
theorem GrIs.step {w w' : World} {base g x i cap cap' : Nat} {gs : List (List Nat)} {cs : List Value} {ao ao' : Option Addr} {l : List Nat} (h : GrIs w base g gs cs) (hg : g < base) (hx : gs[x]? = some l) (hc : cs[x]? = some (.slice ao l.length cap))
    (hu : Upd (Value.slice ao l.length cap).ownBlock.toList w w') (ho : w'.ownsRow base TInt 1 (.slice ao' (l.length + 1) cap') (l.length + 1) (l.map nV ++ [nV i])) (hn : ∀ b, (Value.slice ao' (l.length + 1) cap').ownBlock = some b → (Value.slice ao l.length cap).ownBlock = some b ∨ w.heap.size ≤ b) :
    GrIs (w'.setCell ⟨g, x, none⟩ (.slice ao' (l.length + 1) cap')) base g (gs.set x (l ++ [i])) (cs.set x (.slice ao' (l.length + 1) cap')) := by
  have hxl := (List.getElem?_eq_some_iff.1 hx).1
  have hcl := h.len
  obtain ⟨aox, capx, hcx, hox⟩ := h.row x l hx
  rw [hc] at hcx
  cases hcx
  have hlt := owns_lt hox
  have hng : g ∉ (Value.slice ao l.length cap).ownBlock.toList := fun hm => by have := (hlt g (by simpa using hm)).1; omega
  have hb := blk_set (i := x) (hu.get h.blk hng) (.slice ao' (l.length + 1) cap')
  have hlt' := owns_lt ho
  have hset : Upd [g] w' (w'.setCell ⟨g, x, none⟩ (.slice ao' (l.length + 1) cap')) := (Upd.refl [g] w').setCell (p := ⟨g, x, none⟩) (.inl (by simp)) _
  refine ⟨by rw [hb]; simp, by simp [hcl], fun j m hj => ?_, fun j k u v hjk hj hk b hb1 hb2 => ?_⟩
  · by_cases e : x = j
    · subst e
      rw [List.getElem?_set_self (by omega)] at hj
      cases hj
      refine ⟨ao', cap', ?_, ?_⟩
      · rw [List.getElem?_set_self (by omega)]; simp
      · have := owns_upd ho hset (fun q hq hm => by simp at hm; have := (hlt' q hq).1; omega)
        simpa using this
    · rw [List.getElem?_set_ne e] at hj
      obtain ⟨a1, c1, h1, h2⟩ := h.row j m hj
      refine ⟨a1, c1, by rw [List.getElem?_set_ne e]; exact h1, ?_⟩
      have hl1 := owns_lt h2
      refine owns_upd (owns_upd h2 hu (fun q hq hm => ?_)) hset (fun q hq hm => by simp at hm; have := (hl1 q hq).1; omega)
      exact h.dis x j _ _ e hc h1 q (by simpa using hm) hq
  · by_cases e1 : x = j
    · subst e1
      rw [List.getElem?_set_self (by omega)] at hj
      cases hj
      rw [List.getElem?_set_ne hjk] at hk
      rcases hn b hb1 with h3 | h3
      · exact h.dis x k _ _ hjk hc hk b h3 hb2
      · obtain ⟨m, hm⟩ : ∃ m, gs[k]? = some m := ⟨_, List.getElem?_eq_getElem (by have := (List.getElem?_eq_some_iff.1 hk).1; omega)⟩
        obtain ⟨a1, c1, h4, h5⟩ := h.row k m hm
        rw [hk] at h4
        cases h4
        have := (owns_lt h5 b hb2).2
        omega
    · rw [List.getElem?_set_ne e1] at hj
      by_cases e2 : x = k
      · subst e2
        rw [List.getElem?_set_self (by omega)] at hk
        cases hk
        rcases hn b hb2 with h3 | h3
        · exact h.dis x j _ _ e1 hc hj b h3 hb1
        · obtain ⟨m, hm⟩ : ∃ m, gs[j]? = some m := ⟨_, List.getElem?_eq_getElem (by have := (List.getElem?_eq_some_iff.1 hj).1; omega)⟩
          obtain ⟨a1, c1, h4, h5⟩ := h.row j m hm
          rw [hj] at h4
          cases h4
          have := (owns_lt h5 b hb1).2
          omega
      · rw [List.getElem?_set_ne e2] at hk
        exact h.dis j k u v hjk hj hk b hb1 hb2
theorem GrIs.upd {w w' : World} {base g : Nat} {gs : List (List Nat)} {cs : List Value} {S : List Nat} (h : GrIs w base g gs cs) (hu : Upd S w w') (hg : g ∉ S) (hS : ∀ k ∈ S, k < base) : GrIs w' base g gs cs :=
  ⟨hu.get h.blk hg, h.len, fun j l hj => by
    obtain ⟨ao, cap, h1, h2⟩ := h.row j l hj
    exact ⟨ao, cap, h1, owns_upd h2 hu (fun q hq hm => by have := hS q hm; have := (owns_lt h2 q hq).1; omega)⟩, h.dis⟩
theorem grIs_new {w : World} {base g n : Nat} (h : w.heap[g]? = some (.cells (List.replicate n (Value.slice none 0 0)).toArray TSI (0, 0))) : GrIs w base g (List.replicate n []) (List.replicate n (.slice none 0 0)) := by
  refine ⟨h, by simp, fun j l hj => ?_, fun j k u v _ hj hk b hb => ?_⟩
  · rw [List.getElem?_replicate] at hj
    split at hj
    · rename_i hlt
      cases hj
      exact ⟨none, 0, by simp [List.getElem?_replicate, hlt], World.ownsRow_nil _ _ _ _⟩
    · cases hj
  · rw [List.getElem?_replicate] at hj
    split at hj
    · cases hj; cases hb
    · cases hj
/-! ### the places of each wave, one by one -/
def grpN (ws : List Nat) (top i : Nat) : List (List Nat) := (List.range top).map fun w => (List.range i).filter fun j => decide (ws.getD j 0 = w)
theorem grp_zero (ws : List Nat) (top : Nat) : grpN ws top 0 = List.replicate top [] := by
  refine List.ext_getElem? fun j => ?_
  unfold grpN
  by_cases h : j < top
  · simp [List.getElem?_replicate, h]
  · simp [List.getElem?_replicate, h]
theorem grp_all (ws : List Nat) (top : Nat) : grpN ws top ws.length = groupsM ws top := rfl
theorem grp_len (ws : List Nat) (top i : Nat) : (grpN ws top i).length = top := by simp [grpN]
theorem grp_step {ws : List Nat} {top i x : Nat} {l : List Nat} (hx : ws.getD i 0 = x) (hl : (grpN ws top i)[x]? = some l) : grpN ws top (i + 1) = (grpN ws top i).set x (l ++ [i]) := by
  refine List.ext_getElem? fun j => ?_
  have hxt : x < top := by have := (List.getElem?_eq_some_iff.1 hl).1; rwa [grp_len] at this
  by_cases hj : j < top
  · have e1 : (grpN ws top (i + 1))[j]? = some ((List.range (i + 1)).filter fun k => decide (ws.getD k 0 = j)) := by simp [grpN, hj]
    have e2 : (grpN ws top i)[j]? = some ((List.range i).filter fun k => decide (ws.getD k 0 = j)) := by simp [grpN, hj]
    rw [e1]
    rw [List.range_succ, List.filter_append]
    by_cases e : x = j
    · subst e
      rw [List.getElem?_set_self (by rw [grp_len]; exact hxt)]
      rw [e2] at hl
      cases hl
      rw [List.filter_cons, if_pos (by simpa using hx)]
      rfl
    · rw [List.getElem?_set_ne e, e2, List.filter_cons, if_neg (by rw [hx]; simpa using e)]
      simp
  · rw [List.getElem?_eq_none (by rw [grp_len]; omega), List.getElem?_eq_none (by rw [List.length_set, grp_len]; omega)]
end Go.Proofs.YthpnnffogbjhpaaGreatDoor.Kv
namespace Go.Proofs.YthpnnffogbjhpaaGreatDoor.Kv
set_option linter.unusedSimpArgs false
set_option linter.unusedVariables false
set_option linter.unnecessarySimpa false
open Go.RowKit Go.Lib Go.Proofs.YthpnnffogbjhpaaGreatDoor.Crc Go.Proofs.YthpnnffogbjhpaaGreatDoor.Cm

def pV (x : Int) : Value := .int .i64 x
set_option maxHeartbeats 1000000 in
theorem pick_any {po : Option Addr} {pn pc : Nat} {ps : List Int} (w : World) (hs : SrcAt w po pn pc (ps.map pV) 1) (hp : pn ≤ 200) {a d n : Nat} (ha : a ≤ 1000) (hd : d ≤ 1000) :
    Calls Tryz.prog 30 #[.slice po pn pc, .int .i64 (a : Int), .int .i64 (d : Int), .int .i64 (n : Int)] w fun e w' => e = .returned (.int .i64 (ps.getD (7 * a + d) 0)) ∧ w = w' := by
  have hlen : ps.length = pn := by have := hs.len; simpa using this
  obtain ⟨q, hq⟩ : ∃ q, 7 * a + d = q := ⟨_, rfl⟩
  have h1 : decide ((a : Int) < 0) = false := by simp
  have h2 : decide ((d : Int) < 0) = false := by simp
  have e1 : 7 * (a : Int) + (d : Int) = (q : Int) := by omega
  have HS := hide hs
  rw [hq]
  have HQ := hide hq
  clear hs hq
  by_cases hb : q < pn
  · have h3 : decide ((q : Int) ≥ (pn : Int)) = false := by simp; omega
    have h4 : decide ((pn : Int) ≤ (q : Int)) = false := by simp; omega
    obtain ⟨x, hx⟩ : ∃ x, ps[q]? = some x := ⟨_, List.getElem?_eq_getElem (by omega)⟩
    have hg : ps.getD q 0 = x := by simp [List.getD, hx]
    rw [hg]
    obtain ⟨b, rfl, hc⟩ : ∃ b, po = some b ∧ w.cell? (b.add q) = some (.int .i64 x) := by
      cases po with
      | none => have := (HS.out.nil rfl).1; omega
      | some b => exact ⟨b, rfl, HS.out.cells b rfl q _ (by rw [List.getElem?_map, hx]; rfl)⟩
    have hq2 := HQ.out
    clear hg hx hlen
    go_enter Tryz.func30, Tryz.ntmps30
    clear hq2
    go_wp2_with fail
    go_ret
    exact ⟨rfl, rfl⟩
  · have h3 : decide ((q : Int) ≥ (pn : Int)) = true := by simp; omega
    have h4 : decide ((pn : Int) ≤ (q : Int)) = true := by simp; omega
    have hg : ps.getD q 0 = 0 := by simp [List.getD, List.getElem?_eq_none (by omega : ps.length ≤ q)]
    rw [hg]
    have hq2 := HQ.out
    clear hg hlen
    go_enter Tryz.func30, Tryz.ntmps30
    clear hq2
    go_wp2_with fail
    go_ret
    exact ⟨rfl, rfl⟩
section
variable {P : Program} (t e : TypeId) (ht : P.underlying t = some (.slice e)) (hz : ∀ w, (sizeOf e).run P w = .ok 1 w) (xo : Option Addr) (m c : Nat)
include ht hz
theorem run_cut_hm (h q : Nat) (j k : Int) (hj : j = h) (hk : k = q) (h2 : h ≤ q) (h3 : q ≤ c) (w : World) : (Instr.slice t (.slice xo m c) none (some (.int .i64 j)) (some (.int .i64 k))).run P w = .ok (.slice (cutAt xo 0 q) h q) w := by
  subst hj; subst hk
  have hel : P.elem t = e := by simp [Program.elem, ht]
  rw [run_slice_hm (P := P) w t xo m c (by rw [hel]; exact ht) .i64 .i64 h q (by omega) (by omega) (by omega), hel, hz]
  simp [Result.andThen, sliced, cutAt]
end
/-- A row of rows of numbers, to be read. -/
def GsAt (w : World) (base : Nat) (go : Option Addr) (gs : List (List Nat)) : Prop :=
  ∀ (j : Nat) (g : List Nat), gs[j]? = some g → ∃ (b : Nat) (ao : Option Addr) (cap : Nat), go = some ⟨b, 0, none⟩ ∧ base ≤ b ∧ b < w.heap.size ∧ w.cell? ⟨b, j, none⟩ = some (.slice ao g.length cap) ∧ IntsAt w base ao g.length cap g
theorem GsAt.keep {w w' : World} {base : Nat} {go : Option Addr} {gs : List (List Nat)} (h : GsAt w base go gs) (hz : w.heap.size ≤ w'.heap.size) (hk : ∀ k, base ≤ k → k < w.heap.size → w'.heap[k]? = w.heap[k]?) : GsAt w' base go gs := fun j g hj => by
  obtain ⟨b, ao, cap, h1, h2, h3, h4, h5⟩ := h j g hj
  refine ⟨b, ao, cap, h1, h2, by omega, ?_, h5.keep hk⟩
  rw [← h4]
  simp only [World.cell?]
  rw [hk b h2 h3]
theorem keep_nil {w w' : World} (base : Nat) (hu : Upd [] w w') : ∀ k, base ≤ k → k < w.heap.size → w'.heap[k]? = w.heap[k]? := fun k _ hl => hu.block k hl (by simp)
/-- What two remainders come to. -/
theorem rem_pick {ps : List Int} {i d n : Nat} (hn : 0 < n) (h2 : n ≤ 1000) {x : Int} (hx : ps.getD (7 * i + d) 0 = x) : ∃ r : Int, Int.tmod x n = r ∧ -1000 < r ∧ r < 1000 ∧ Int.tmod (r + n) n = ((kfP ps i d n : Nat) : Int) ∧ kfP ps i d n < n := by
  have h1 : (0 : Int) < n := by exact_mod_cast hn
  refine ⟨_, rfl, ?_, ?_, ?_, kfP_lt ps i d n hn⟩
  · have := Int.lt_tmod_of_pos x h1
    omega
  · have := Int.tmod_lt_of_pos x h1
    omega
  · unfold kfP
    rw [hx]
    have h3 := Int.lt_tmod_of_pos x h1
    have h4 : 0 ≤ Int.tmod (Int.tmod x n + n) n := Int.tmod_nonneg _ (by omega)
    omega
/-- An append that is known. -/
theorem wp_append_eq {P : Program} {o : Oper} {a : Act} {w w' : World} {K : Act → World → Prop} {Q : Exit → Act → World → Prop} (s x : Operand) (t : TypeId) {u v y : Value}
    (ho : o.op = .call { callee := .builtin .append, args := #[s, x], argTypes := #[t, t] }) (hs : a.eval s = u) (hx : a.eval x = v)
    (hr : (Builtin.append_ #[t, t] o.type #[u, v]).run P w = .ok y w') (h : K (a.put o.dst y) w') : Oper.wp P o a w K Q := by
  unfold Oper.wp execOp
  simp only [ho, resolve, invoke, builtin, Sem.run_bind, Sem.run_pure, Result.andThen_ok, List.map_toArray, List.map_cons, List.map_nil, hs, hx, hr]
  exact h
end Go.Proofs.YthpnnffogbjhpaaGreatDoor.Kv
namespace Go.Proofs.YthpnnffogbjhpaaGreatDoor.Kv
set_option linter.unusedSimpArgs false
set_option linter.unusedVariables false
set_option linter.unnecessarySimpa false
open Go.RowKit Go.Lib Go.Proofs.YthpnnffogbjhpaaGreatDoor.Crc Go.Proofs.YthpnnffogbjhpaaGreatDoor.Cm

def maxN (l : List Nat) : Nat := l.foldl max 0
theorem maxN_next {l : List Nat} {i x : Nat} (h : l[i]? = some x) : maxN (l.take (i + 1)) = max (maxN (l.take i)) x := by
  unfold maxN
  rw [List.take_add_one, h, List.foldl_append]
  rfl
theorem foldl_max1 : ∀ (l : List Nat) (m : Nat), l.foldl (fun m w => max m (w + 1)) (m + 1) = l.foldl max m + 1
  | [], m => rfl
  | x :: l, m => by
    simp only [List.foldl_cons]
    rw [show max (m + 1) (x + 1) = max m x + 1 by omega]
    exact foldl_max1 l _
theorem topM_max {l : List Nat} (h : l ≠ []) : topM l = maxN l + 1 := by
  cases l with
  | nil => exact absurd rfl h
  | cons x l =>
    unfold topM maxN
    simp only [List.foldl_cons]
    rw [show max 0 (x + 1) = max 0 x + 1 by omega]
    exact foldl_max1 l _
set_option maxRecDepth 100000 in
set_option maxHeartbeats 1000000 in
theorem max_any {base n cap : Nat} {ao : Option Addr} {l : List Nat} (w : World) (h : IntsAt w base ao n cap l) (h0 : 0 < n) (hn : n ≤ 1000) :
    Calls Tryz.prog 111 #[.slice ao n cap] w fun e w' => e = .returned (.int .i64 ((maxN l : Nat) : Int)) ∧ w = w' := by
  have hlen := h.len
  have hle := h.le; have hmx := h.mx
  simp only [maxLen] at hmx
  have HI := hide h
  obtain ⟨x0, hx0⟩ : ∃ x, l[0]? = some x := ⟨_, List.getElem?_eq_getElem (by omega)⟩
  obtain ⟨a, rfl, hc0⟩ := h.get hx0
  rw [show a.add 0 = a by simp [Addr.add]] at hc0
  have hm1 : maxN (l.take 1) = x0 := by rw [maxN_next hx0]; simp [maxN]
  have HM1 := hide hm1
  have d0 : decide ((n : Int) < 1) = false := by simp; omega
  clear h hm1
  go_enter Tryz.func111, Tryz.ntmps111
  go_wp2_with fail
  go_loop [3, 4] (fun sm si => ∃ i : Nat, 1 ≤ i ∧ i ≤ n ∧ si = .int .i64 i ∧ sm = .int .i64 ((maxN (l.take i) : Nat) : Int)) (fun _ si => n - (RowKit.intOf si).toNat)
  case atStart => exact ⟨1, by omega, by omega, rfl, by rw [HM1.out]⟩
  case round =>
    obtain ⟨i, hi1, hi, rfl, rfl⟩ := hrel
    by_cases hlt : i < n
    · have d7 : decide ((i : Int) < n) = true := by simp; omega
      have d7' : decide (i < n) = true := by simpa using hlt
      obtain ⟨x, hx⟩ : ∃ x, l[i]? = some x := ⟨_, List.getElem?_eq_getElem (by omega)⟩
      obtain ⟨a', e, hc⟩ := HI.out.get hx
      cases e
      have HST := hide (maxN_next hx)
      clear hx
      go_wp2_with fail
      go_round
      case rel => exact ⟨i + 1, by omega, by omega, by go_num, by rw [HST.out]; exact congrArg (Value.int .i64) (by omega)⟩
      case measure => simp [RowKit.intOf]; omega
    · have d7 : decide ((i : Int) < n) = false := by simp; omega
      have d7' : decide (i < n) = false := by simpa using hlt
      have hie : i = n := by omega
      subst hie
      go_wp2_with fail
      go_ret
      rw [List.take_of_length_le (by omega)]
      exact ⟨rfl, rfl⟩
end Go.Proofs.YthpnnffogbjhpaaGreatDoor.Kv
